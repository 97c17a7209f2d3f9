/-
  Walks: the reference: Valid.
-/
import Derived.Test.YtmcnhggpmlhgeaaGreatDoorRfA
import Derived.Test.YtmcnhggpmlhgeaaGreatDoorFix
namespace Go.Proofs.YtmcnhggpmlhgeaaGreatDoor
open Go.RowKit Go.Proofs.BitsM
theorem all_twr {q : UInt8 → Bool} : ∀ {l : List UInt8}, l.takeWhile q = l ↔ l.all q = true
  | [] => by simp
  | c :: l => by
    rw [List.takeWhile_cons, List.all_cons]
    cases h : q c with
    | true => simp [all_twr (l := l)]
    | false => simp
set_option maxRecDepth 100000 in
set_option maxHeartbeats 8000000 in
theorem rValid_3a (k : Int) (tx : List UInt8) (n : Nat) (pos : Int) (w : World) (hk : k = 3) (ht : tx ≠ []) :
    Calls Tryz.prog 19 #[.agg #[.int .i64 k, .string (ba tx), .int .u64 (n : Int), .int .i64 pos]] w fun e w' => e = .returned (.bool false) ∧ Below w.heap.size w w' := by
  have x3 : (k == 3) = true := by simp; omega
  have xe : (ba tx).toList.isEmpty = false := by rw [ba_toList]; cases tx with | nil => exact absurd rfl ht | cons c r => rfl
  clear hk ht
  go_enter Tryz.func19, Tryz.ntmps19
  go_wp2_with fail
  go_ret
  exact ⟨rfl, below_alloc _ _⟩
set_option maxRecDepth 100000 in
set_option maxHeartbeats 8000000 in
theorem rValid_3b (k : Int) (tx : List UInt8) (n : Nat) (pos : Int) (w : World) (hk : k = 3) (ht : tx = []) (hn : n ≤ 9223372036854775808) :
    Calls Tryz.prog 19 #[.agg #[.int .i64 k, .string (ba tx), .int .u64 (n : Int), .int .i64 pos]] w fun e w' => e = .returned (.bool true) ∧ Below w.heap.size w w' := by
  have x3 : (k == 3) = true := by simp; omega
  subst ht
  have xe : (ba ([] : List UInt8)).toList.isEmpty = true := by rw [ba_toList]; rfl
  have xn : (n : Int) ≤ 9223372036854775808 := by omega
  clear hk hn
  go_enter Tryz.func19, Tryz.ntmps19
  go_wp2_with fail
  go_ret
  exact ⟨rfl, below_alloc _ _⟩
set_option maxRecDepth 100000 in
set_option maxHeartbeats 8000000 in
theorem rValid_3c (k : Int) (tx : List UInt8) (n : Nat) (pos : Int) (w : World) (hk : k = 3) (ht : tx = []) (hn : ¬ n ≤ 9223372036854775808) :
    Calls Tryz.prog 19 #[.agg #[.int .i64 k, .string (ba tx), .int .u64 (n : Int), .int .i64 pos]] w fun e w' => e = .returned (.bool false) ∧ Below w.heap.size w w' := by
  have x3 : (k == 3) = true := by simp; omega
  subst ht
  have xe : (ba ([] : List UInt8)).toList.isEmpty = true := by rw [ba_toList]; rfl
  have xn : ¬ (n : Int) ≤ 9223372036854775808 := by omega
  clear hk hn
  go_enter Tryz.func19, Tryz.ntmps19
  go_wp2_with fail
  go_ret
  exact ⟨rfl, below_alloc _ _⟩
set_option maxRecDepth 100000 in
set_option maxHeartbeats 8000000 in
theorem rValid_nz (k : Int) (tx : List UInt8) (n : Nat) (pos : Int) (w : World) (hk : k ≠ 3) (hn : n ≠ 0) :
    Calls Tryz.prog 19 #[.agg #[.int .i64 k, .string (ba tx), .int .u64 (n : Int), .int .i64 pos]] w fun e w' => e = .returned (.bool false) ∧ Below w.heap.size w w' := by
  have x3 : (k == 3) = false := by simp; omega
  have xn : ¬ (n : Int) = 0 := by omega
  clear hk hn
  go_enter Tryz.func19, Tryz.ntmps19
  go_wp2_with fail
  go_ret
  exact ⟨rfl, below_alloc _ _⟩
set_option maxRecDepth 100000 in
set_option maxHeartbeats 8000000 in
theorem rValid_other (k : Int) (tx : List UInt8) (n : Nat) (pos : Int) (w : World) (hk : ¬ (k = 1 ∨ k = 2 ∨ k = 3 ∨ k = 4 ∨ k = 5 ∨ k = 6)) (hn : n = 0) :
    Calls Tryz.prog 19 #[.agg #[.int .i64 k, .string (ba tx), .int .u64 (n : Int), .int .i64 pos]] w fun e w' => e = .returned (.bool false) ∧ Below w.heap.size w w' := by
  subst hn
  have x3 : (k == 3) = false := by simp; omega
  have x1 : (k == 1) = false := by simp; omega
  have x2 : (k == 2) = false := by simp; omega
  have x4 : (k == 4) = false := by simp; omega
  have x5 : (k == 5) = false := by simp; omega
  have x6 : (k == 6) = false := by simp; omega
  clear hk
  go_enter Tryz.func19, Tryz.ntmps19
  go_wp2_with fail
  go_ret
  exact ⟨rfl, below_alloc _ _⟩
set_option maxRecDepth 100000 in
set_option maxHeartbeats 8000000 in
theorem rValid_5 (k : Int) (tx : List UInt8) (n : Nat) (pos : Int) (w : World) (hk : k = 5) (hn : n = 0) :
    Calls Tryz.prog 19 #[.agg #[.int .i64 k, .string (ba tx), .int .u64 (n : Int), .int .i64 pos]] w fun e w' => e = .returned (.bool (resB tx)) ∧ Below w.heap.size w w' := by
  subst hn
  have x3 : (k == 3) = false := by simp; omega
  have x1 : (k == 1) = false := by simp; omega
  have x2 : (k == 2) = false := by simp; omega
  have x4 : (k == 4) = false := by simp; omega
  have x5 : (k == 5) = true := by simp; omega
  have x6 : (k == 6) = false := by simp; omega
  clear hk
  go_enter Tryz.func19, Tryz.ntmps19
  go_wp2_with fail
  refine (Reserved_r tx _).mono ?_
  rintro e w1 ⟨rfl, hb1⟩
  have HW1 := Lib.hid (bstep (below_alloc w _) hb1)
  clear hb1
  go_wp2_with fail
  go_ret
  exact ⟨rfl, HW1.out⟩
set_option maxRecDepth 100000 in
set_option maxHeartbeats 8000000 in
theorem rValid_4 (k : Int) (tx : List UInt8) (n : Nat) (pos : Int) (w : World) (hk : k = 4) (hn : n = 0) (hl : tx.length ≤ 1000000) :
    Calls Tryz.prog 19 #[.agg #[.int .i64 k, .string (ba tx), .int .u64 (n : Int), .int .i64 pos]] w fun e w' => e = .returned (.bool (plainB tx)) ∧ Below w.heap.size w w' := by
  subst hn
  have x3 : (k == 3) = false := by simp; omega
  have x1 : (k == 1) = false := by simp; omega
  have x2 : (k == 2) = false := by simp; omega
  have x4 : (k == 4) = true := by simp; omega
  have x5 : (k == 5) = false := by simp; omega
  have x6 : (k == 6) = false := by simp; omega
  clear hk
  go_enter Tryz.func19, Tryz.ntmps19
  go_wp2_with fail
  refine (plain_r tx _ (by omega)).mono ?_
  rintro e w1 ⟨rfl, rfl⟩
  go_wp2_with fail
  go_ret
  exact ⟨ret_bool (by cases plainB tx <;> rfl), below_alloc _ _⟩
set_option maxRecDepth 100000 in
set_option maxHeartbeats 8000000 in
theorem rValid_1a (k : Int) (tx : List UInt8) (n : Nat) (pos : Int) (w : World) (hk : k = 1) (hn : n = 0) (hB : nameB (ba tx) = true) (hl : tx.length ≤ 1000000) :
    Calls Tryz.prog 19 #[.agg #[.int .i64 k, .string (ba tx), .int .u64 (n : Int), .int .i64 pos]] w fun e w' => e = .returned (.bool (!resB tx)) ∧ Below w.heap.size w w' := by
  subst hn
  have x3 : (k == 3) = false := by simp; omega
  have x1 : (k == 1) = true := by simp; omega
  have x2 : (k == 2) = false := by simp; omega
  have x4 : (k == 4) = false := by simp; omega
  have x5 : (k == 5) = false := by simp; omega
  have x6 : (k == 6) = false := by simp; omega
  clear hk
  have HN := Lib.hid fun W => (show Calls Tryz.prog 44 #[.string (ba tx)] W fun e w' => e = .returned (.bool true) ∧ W = w' from by rw [← hB]; exact Name_any (ba tx) (by rw [ba_size]; unfold maxLen; omega) W)
  clear hB
  go_enter Tryz.func19, Tryz.ntmps19
  go_wp2_with fail
  refine (HN.out _).mono ?_
  rintro e w1 ⟨rfl, rfl⟩
  obtain ⟨c0, c1, c2, c3, -⟩ := four_cells (heap_alloc_new w (.cells #[.int .i64 k, .string (ba tx), .int .u64 ((0 : Nat) : Int), .int .i64 pos] 36 (0, 0)))
  go_wp2_with fail
  refine (Reserved_r tx _).mono ?_
  rintro e w2 ⟨rfl, hb2⟩
  have HW2 := Lib.hid (bstep (below_alloc w _) hb2)
  clear hb2 c0 c1 c2 c3
  go_wp2_with fail
  go_ret
  exact ⟨ret_bool (by cases resB tx <;> rfl), HW2.out⟩
set_option maxRecDepth 100000 in
set_option maxHeartbeats 8000000 in
theorem rValid_1b (k : Int) (tx : List UInt8) (n : Nat) (pos : Int) (w : World) (hk : k = 1) (hn : n = 0) (hB : nameB (ba tx) = false) (hl : tx.length ≤ 1000000) :
    Calls Tryz.prog 19 #[.agg #[.int .i64 k, .string (ba tx), .int .u64 (n : Int), .int .i64 pos]] w fun e w' => e = .returned (.bool false) ∧ Below w.heap.size w w' := by
  subst hn
  have x3 : (k == 3) = false := by simp; omega
  have x1 : (k == 1) = true := by simp; omega
  have x2 : (k == 2) = false := by simp; omega
  have x4 : (k == 4) = false := by simp; omega
  have x5 : (k == 5) = false := by simp; omega
  have x6 : (k == 6) = false := by simp; omega
  clear hk
  have HN := Lib.hid fun W => (show Calls Tryz.prog 44 #[.string (ba tx)] W fun e w' => e = .returned (.bool false) ∧ W = w' from by rw [← hB]; exact Name_any (ba tx) (by rw [ba_size]; unfold maxLen; omega) W)
  clear hB
  go_enter Tryz.func19, Tryz.ntmps19
  go_wp2_with fail
  refine (HN.out _).mono ?_
  rintro e w1 ⟨rfl, rfl⟩
  go_wp2_with fail
  go_ret
  exact ⟨rfl, below_alloc _ _⟩
set_option maxRecDepth 100000 in
set_option maxHeartbeats 8000000 in
theorem rValid_6 (k : Int) (tx : List UInt8) (n : Nat) (pos : Int) (w : World) (hk : k = 6) (hn : n = 0) :
    Calls Tryz.prog 19 #[.agg #[.int .i64 k, .string (ba tx), .int .u64 (n : Int), .int .i64 pos]] w fun e w' => e = .returned (.bool (signB tx)) ∧ Below w.heap.size w w' := by
  subst hn
  have x3 : (k == 3) = false := by simp; omega
  have x1 : (k == 1) = false := by simp; omega
  have x2 : (k == 2) = false := by simp; omega
  have x4 : (k == 4) = false := by simp; omega
  have x5 : (k == 5) = false := by simp; omega
  have x6 : (k == 6) = true := by simp; omega
  clear hk
  go_enter Tryz.func19, Tryz.ntmps19
  go_upto_region 15 with (fail)
  have HB0 := Lib.hid (show (fun (fs : List Bool) (W : World) => W.heap[w.heap.size]? = some (.cells #[.int .i64 k, .string (ba tx), .int .u64 ((0 : Nat) : Int), .int .i64 pos] 36 (0, 0)) ∧ Below w.heap.size w W ∧ ((fs = [false] ∧ W.heap.size = w.heap.size + 1) ∨ (fs = [true] ∧ W.heap[w.heap.size + 1]? = some (.cells (strVs signL) 9 (0, 0))))) [false] (w.alloc (.cells #[.int .i64 k, .string (ba tx), .int .u64 ((0 : Nat) : Int), .int .i64 pos] 36 (0, 0))).drew from ⟨heap_alloc_new w _, (below_alloc w _).drew, .inl ⟨rfl, World.size_alloc _ _⟩⟩)
  refine' wp_region_fix (by kernel_rfl) 4 [some 74, some 75, some 76, some 77] [_, _, _, _] [2] (fun (fs : List Bool) (W : World) => W.heap[w.heap.size]? = some (.cells #[.int .i64 k, .string (ba tx), .int .u64 ((0 : Nat) : Int), .int .i64 pos] 36 (0, 0)) ∧ Below w.heap.size w W ∧ ((fs = [false] ∧ W.heap.size = w.heap.size + 1) ∨ (fs = [true] ∧ W.heap[w.heap.size + 1]? = some (.cells (strVs signL) 9 (0, 0))))) (by kernel_rfl) (by decide) (by kernel_rfl) (by decide) (by rfl) (by decide) (HB0.out) ?_ ?_
  rotate_left 4
  · refine all_cons 0 ?_ (all_cons 1 ?_ (all_cons 2 ?_ (all_cons 3 ?_ (all_done 4))))
    · intro o ho fs W HFi HAf HJ A HA HZ K' HK
      have z1 : A.tmps[1]? = some _ := HZ.out 1 (by decide)
      clear HAf HA HZ
      cases ho
      go_simp
      exact HK.out _ (by rw [upd_map fs (by decide)]; exact HJ.out)
    · intro o ho fs W HFi HAf HJ A HA HZ K' HK
      have f0 : fs 0 = true := by cases ho; exact HAf.out ⟨0, .data⟩ (by simp) rfl
      have s0 := HA.out 0 74 (by decide) f0 rfl
      simp only [List.getD_cons_zero] at s0
      clear HAf HA HZ f0
      obtain ⟨c0, c1, c2, c3, -⟩ := four_cells HJ.out.1
      cases ho
      go_simp
      exact HK.out _ (by rw [upd_map fs (by decide)]; exact HJ.out)
    · intro o ho fs W HFi HAf HJ A HA HZ K' HK
      clear HAf HA HZ
      cases ho
      have hfi := HFi.out
      have hz : W.heap.size = w.heap.size + 1 := by
        rcases HJ.out.2.2 with ⟨-, h⟩ | ⟨h, -⟩
        · exact h
        · rw [List.map_singleton, hfi] at h; cases h
      have hs := signs_r W
      have hne := heap_alloc_new W (.cells (strVs signL) 9 (0, 0))
      have hbx := (below_alloc W (.cells (strVs signL) 9 (0, 0))).block w.heap.size (by omega)
      rw [hz] at hs hne
      have HS := Lib.hid hs
      have HNe := Lib.hid hne
      have HBx := Lib.hid (hbx.trans HJ.out.1)
      have HBe := Lib.hid (balloc HJ.out.2.1 (.cells (strVs signL) 9 (0, 0)))
      clear hs hne hbx hz hfi
      go_simp
      refine HS.out.mono ?_
      rintro e w' ⟨rfl, rfl⟩
      exact HK.out _ ⟨HBx.out, HBe.out, .inr ⟨by rw [List.map_singleton, upd_at], HNe.out⟩⟩
    · intro o ho fs W HFi HAf HJ A HA HZ K' HK
      have f1 : fs 1 = true := by cases ho; exact HAf.out ⟨1, .data⟩ (by simp) rfl
      have s1 := HA.out 1 75 (by decide) f1 rfl
      simp only [List.getD_cons_succ, List.getD_cons_zero] at s1
      have f2 : fs 2 = true := by cases ho; exact HAf.out ⟨2, .data⟩ (by simp) rfl
      have s2 := HA.out 2 76 (by decide) f2 rfl
      simp only [List.getD_cons_succ, List.getD_cons_zero] at s2
      clear HAf HA HZ
      cases ho
      have hb : W.heap[w.heap.size + 1]? = some (.cells (strVs signL) 9 (0, 0)) := by
        rcases HJ.out.2.2 with ⟨h, -⟩ | ⟨-, h⟩
        · rw [List.map_singleton, f2] at h; cases h
        · exact h
      have HI := Lib.hid (show Calls Tryz.prog 48 #[.string (ba tx), .slice (some ⟨w.heap.size + 1, 0, none⟩) 27 27] W fun e w' => e = .returned (.bool (signB tx)) ∧ w' = W from by rw [← signL_contains]; exact in_r tx signL _ 27 W (by decide) hb)
      clear hb
      go_simp
      refine HI.out.mono ?_
      rintro e w' ⟨rfl, rfl⟩
      exact HK.out _ (by rw [upd_map fs (by decide)]; exact HJ.out)
  · intro W hJ
    simp only [canon, Act.put, List.getD_cons_succ, List.getD_cons_zero, List.drop_succ_cons, List.drop_zero, List.setIfInBounds_toArray, List.set_cons_zero, List.set_cons_succ]
    have HW := Lib.hid hJ.2.1
    clear hJ
    go_wp2_with fail
    go_ret
    exact ⟨rfl, HW.out⟩
set_option maxRecDepth 100000 in
set_option maxHeartbeats 8000000 in
theorem rValid_2emp (k : Int) (tx : List UInt8) (n : Nat) (pos : Int) (w : World) (hk : k = 2) (hn : n = 0) (ht : tx = []) :
    Calls Tryz.prog 19 #[.agg #[.int .i64 k, .string (ba tx), .int .u64 (n : Int), .int .i64 pos]] w fun e w' => e = .returned (.bool false) ∧ Below w.heap.size w w' := by
  subst hn
  have x3 : (k == 3) = false := by simp; omega
  have x1 : (k == 1) = false := by simp; omega
  have x2 : (k == 2) = true := by simp; omega
  have x4 : (k == 4) = false := by simp; omega
  have x5 : (k == 5) = false := by simp; omega
  have x6 : (k == 6) = false := by simp; omega
  clear hk
  have s1 : ((ba tx).size : Int) = (tx.length : Int) := by rw [ba_size]
  have x0 : ¬ (1 : Int) ≤ (tx.length : Int) := by rw [ht]; decide
  clear ht
  go_enter Tryz.func19, Tryz.ntmps19
  go_upto_region 9 with (fail)
  have HB0 := Lib.hid (show (fun W : World => W.heap[w.heap.size]? = some (.cells #[.int .i64 k, .string (ba tx), .int .u64 ((0 : Nat) : Int), .int .i64 pos] 36 (0, 0)) ∧ Below w.heap.size w W) (w.alloc (.cells #[.int .i64 k, .string (ba tx), .int .u64 ((0 : Nat) : Int), .int .i64 pos] 36 (0, 0))).drew from ⟨heap_alloc_new w _, (below_alloc w _).drew⟩)
  refine' wp_region_fix (by kernel_rfl) 30 [some 32, some 33, some 34, some 35, some 36, some 37, some 38, some 39, some 40, some 41, some 42, some 43, some 44, some 45, some 46, some 47, some 48, some 49, some 50, some 51, some 52, some 53, some 54, some 55, some 56, some 57, some 58, some 59, some 60, some 61] [_, _, _, _, _, _, _, _, _, _, _, _, _, _, _, _, _, _, _, _, _, _, _, _, _, _, _, _, _, _] [] (fun _ W => W.heap[w.heap.size]? = some (.cells #[.int .i64 k, .string (ba tx), .int .u64 ((0 : Nat) : Int), .int .i64 pos] 36 (0, 0)) ∧ Below w.heap.size w W) (by kernel_rfl) (by decide) (by kernel_rfl) (by decide) (by rfl) (by decide) (HB0.out) ?_ ?_
  rotate_left 30
  · refine all_cons 0 ?_ (all_cons 1 ?_ (all_cons 2 ?_ (all_cons 3 ?_ (all_cons 4 ?_ (all_cons 5 ?_ (all_cons 6 ?_ (all_cons 7 ?_ (all_cons 8 ?_ (all_cons 9 ?_ (all_cons 10 ?_ (all_cons 11 ?_ (all_cons 12 ?_ (all_cons 13 ?_ (all_cons 14 ?_ (all_cons 15 ?_ (all_cons 16 ?_ (all_cons 17 ?_ (all_cons 18 ?_ (all_cons 19 ?_ (all_cons 20 ?_ (all_cons 21 ?_ (all_cons 22 ?_ (all_cons 23 ?_ (all_cons 24 ?_ (all_cons 25 ?_ (all_cons 26 ?_ (all_cons 27 ?_ (all_cons 28 ?_ (all_cons 29 ?_ (all_done 30))))))))))))))))))))))))))))))
    · intro o ho fs W HFi HAf HJ A HA HZ K' HK
      have z1 : A.tmps[1]? = some _ := HZ.out 1 (by decide)
      clear HAf HA HZ
      cases ho
      go_simp
      exact HK.out _ HJ.out
    · intro o ho fs W HFi HAf HJ A HA HZ K' HK
      have f0 : fs 0 = true := by cases ho; exact HAf.out ⟨0, .data⟩ (by simp) rfl
      have s0 := HA.out 0 32 (by decide) f0 rfl
      simp only [List.getD_cons_zero] at s0
      clear HAf HA HZ f0
      obtain ⟨c0, c1, c2, c3, -⟩ := four_cells HJ.out.1
      cases ho
      go_simp
      exact HK.out _ HJ.out
    · intro o ho fs W HFi HAf HJ A HA HZ K' HK
      have f1 : fs 1 = true := by cases ho; exact HAf.out ⟨1, .data⟩ (by simp) rfl
      have s1 := HA.out 1 33 (by decide) f1 rfl
      simp only [List.getD_cons_succ, List.getD_cons_zero] at s1
      clear HAf HA HZ f1
      cases ho
      go_simp
      exact HK.out _ HJ.out
    · intro o ho fs W HFi HAf HJ A HA HZ K' HK
      have f2 : fs 2 = true := by cases ho; exact HAf.out ⟨2, .data⟩ (by simp) rfl
      have s2 := HA.out 2 34 (by decide) f2 rfl
      simp only [List.getD_cons_succ, List.getD_cons_zero] at s2
      clear HAf HA HZ f2
      cases ho
      go_simp
      exact HK.out _ HJ.out
    · intro o ho fs W HFi HAf HJ A HA HZ K' HK
      have f3 : fs 3 = true := by cases ho; exact HAf.out ⟨3, .data⟩ (by simp) rfl
      have s3 := HA.out 3 35 (by decide) f3 rfl
      simp only [List.getD_cons_succ, List.getD_cons_zero] at s3
      clear HAf HA HZ f3
      cases ho
      go_simp
      exact HK.out _ HJ.out
    · intro o ho fs W HFi HAf HJ A HA HZ K' HK
      have z1 : A.tmps[1]? = some _ := HZ.out 1 (by decide)
      have f4 : fs 4 = true := by cases ho; exact HAf.out ⟨4, .guard⟩ (by simp) rfl
      have s4 := HA.out 4 36 (by decide) f4 rfl
      simp only [List.getD_cons_succ, List.getD_cons_zero] at s4
      clear HAf HA HZ f4
      cases ho
      go_simp
      exact HK.out _ HJ.out
    · intro o ho fs W HFi HAf HJ A HA HZ K' HK
      have f5 : fs 5 = true := by cases ho; exact HAf.out ⟨5, .data⟩ (by simp) rfl
      have s5 := HA.out 5 37 (by decide) f5 rfl
      simp only [List.getD_cons_succ, List.getD_cons_zero] at s5
      have f4 : fs 4 = true := by cases ho; exact HAf.out ⟨4, .guard⟩ (by simp) rfl
      have s4 := HA.out 4 36 (by decide) f4 rfl
      simp only [List.getD_cons_succ, List.getD_cons_zero] at s4
      clear HAf HA HZ f5 f4
      obtain ⟨c0, c1, c2, c3, -⟩ := four_cells HJ.out.1
      cases ho
      go_simp
      exact HK.out _ HJ.out
    · intro o ho fs W HFi HAf HJ A HA HZ K' HK
      have f6 : fs 6 = true := by cases ho; exact HAf.out ⟨6, .data⟩ (by simp) rfl
      have s6 := HA.out 6 38 (by decide) f6 rfl
      simp only [List.getD_cons_succ, List.getD_cons_zero] at s6
      have f4 : fs 4 = true := by cases ho; exact HAf.out ⟨4, .guard⟩ (by simp) rfl
      have s4 := HA.out 4 36 (by decide) f4 rfl
      simp only [List.getD_cons_succ, List.getD_cons_zero] at s4
      clear HAf HA HZ f6 f4
      cases ho
      go_simp
      exact HK.out _ HJ.out
    · intro o ho fs W HFi HAf HJ A HA HZ K' HK
      have f7 : fs 7 = true := by cases ho; exact HAf.out ⟨7, .data⟩ (by simp) rfl
      have s7 := HA.out 7 39 (by decide) f7 rfl
      simp only [List.getD_cons_succ, List.getD_cons_zero] at s7
      have f4 : fs 4 = true := by cases ho; exact HAf.out ⟨4, .guard⟩ (by simp) rfl
      have s4 := HA.out 4 36 (by decide) f4 rfl
      simp only [List.getD_cons_succ, List.getD_cons_zero] at s4
      clear HAf HA HZ f7 f4
      cases ho
      go_simp
      exact HK.out _ HJ.out
    · intro o ho fs W HFi HAf HJ A HA HZ K' HK
      have f4 : fs 4 = true := by cases ho; exact HAf.out ⟨4, .data⟩ (by simp) rfl
      have s4 := HA.out 4 36 (by decide) f4 rfl
      simp only [List.getD_cons_succ, List.getD_cons_zero] at s4
      have f8 : fs 8 = true := by cases ho; exact HAf.out ⟨8, .data⟩ (by simp) rfl
      have s8 := HA.out 8 40 (by decide) f8 rfl
      simp only [List.getD_cons_succ, List.getD_cons_zero] at s8
      clear HAf HA HZ f4 f8
      cases ho
      go_simp
      exact HK.out _ HJ.out
    · intro o ho fs W HFi HAf HJ A HA HZ K' HK
      have f9 : fs 9 = true := by cases ho; exact HAf.out ⟨9, .data⟩ (by simp) rfl
      have s9 := HA.out 9 41 (by decide) f9 rfl
      simp only [List.getD_cons_succ, List.getD_cons_zero] at s9
      clear HAf HA HZ f9
      cases ho
      go_simp
      exact HK.out _ HJ.out
    · intro o ho fs W HFi HAf HJ A HA HZ K' HK
      have z1 : A.tmps[1]? = some _ := HZ.out 1 (by decide)
      have f10 : fs 10 = true := by cases ho; exact HAf.out ⟨10, .guard⟩ (by simp) rfl
      have s10 := HA.out 10 42 (by decide) f10 rfl
      simp only [List.getD_cons_succ, List.getD_cons_zero] at s10
      clear HAf HA HZ f10
      cases ho
      go_simp
      exact HK.out _ HJ.out
    · intro o ho fs W HFi HAf HJ A HA HZ K' HK
      have f11 : fs 11 = true := by cases ho; exact HAf.out ⟨11, .data⟩ (by simp) rfl
      have s11 := HA.out 11 43 (by decide) f11 rfl
      simp only [List.getD_cons_succ, List.getD_cons_zero] at s11
      have f10 : fs 10 = true := by cases ho; exact HAf.out ⟨10, .guard⟩ (by simp) rfl
      have s10 := HA.out 10 42 (by decide) f10 rfl
      simp only [List.getD_cons_succ, List.getD_cons_zero] at s10
      clear HAf HA HZ f11 f10
      obtain ⟨c0, c1, c2, c3, -⟩ := four_cells HJ.out.1
      cases ho
      go_simp
      exact HK.out _ HJ.out
    · intro o ho fs W HFi HAf HJ A HA HZ K' HK
      have f12 : fs 12 = true := by cases ho; exact HAf.out ⟨12, .data⟩ (by simp) rfl
      have s12 := HA.out 12 44 (by decide) f12 rfl
      simp only [List.getD_cons_succ, List.getD_cons_zero] at s12
      have f10 : fs 10 = true := by cases ho; exact HAf.out ⟨10, .chain⟩ (by simp) rfl
      have s10 := HA.out 10 42 (by decide) f10 rfl
      simp only [List.getD_cons_succ, List.getD_cons_zero] at s10
      clear HAf HA HZ f12 f10
      cases ho
      go_simp
      exact HK.out _ HJ.out
    · intro o ho fs W HFi HAf HJ A HA HZ K' HK
      have z1 : A.tmps[1]? = some _ := HZ.out 1 (by decide)
      have f10 : fs 10 = true := by cases ho; exact HAf.out ⟨10, .guard⟩ (by simp) rfl
      have s10 := HA.out 10 42 (by decide) f10 rfl
      simp only [List.getD_cons_succ, List.getD_cons_zero] at s10
      clear HAf HA HZ f10
      cases ho
      go_simp
      exact HK.out _ HJ.out
    · intro o ho fs W HFi HAf HJ A HA HZ K' HK
      have f14 : fs 14 = true := by cases ho; exact HAf.out ⟨14, .data⟩ (by simp) rfl
      have s14 := HA.out 14 46 (by decide) f14 rfl
      simp only [List.getD_cons_succ, List.getD_cons_zero] at s14
      have f10 : fs 10 = true := by cases ho; exact HAf.out ⟨10, .guard⟩ (by simp) rfl
      have s10 := HA.out 10 42 (by decide) f10 rfl
      simp only [List.getD_cons_succ, List.getD_cons_zero] at s10
      clear HAf HA HZ f14 f10
      obtain ⟨c0, c1, c2, c3, -⟩ := four_cells HJ.out.1
      cases ho
      go_simp
      exact HK.out _ HJ.out
    · intro o ho fs W HFi HAf HJ A HA HZ K' HK
      have f13 : fs 13 = true := by cases ho; exact HAf.out ⟨13, .data⟩ (by simp) rfl
      have s13 := HA.out 13 45 (by decide) f13 rfl
      simp only [List.getD_cons_succ, List.getD_cons_zero] at s13
      have f15 : fs 15 = true := by cases ho; exact HAf.out ⟨15, .data⟩ (by simp) rfl
      have s15 := HA.out 15 47 (by decide) f15 rfl
      simp only [List.getD_cons_succ, List.getD_cons_zero] at s15
      have f10 : fs 10 = true := by cases ho; exact HAf.out ⟨10, .guard⟩ (by simp) rfl
      have s10 := HA.out 10 42 (by decide) f10 rfl
      simp only [List.getD_cons_succ, List.getD_cons_zero] at s10
      clear HAf HA HZ f13 f15 f10
      cases ho
      go_simp
      exact HK.out _ HJ.out
    · intro o ho fs W HFi HAf HJ A HA HZ K' HK
      have f10 : fs 10 = true := by cases ho; exact HAf.out ⟨10, .data⟩ (by simp) rfl
      have s10 := HA.out 10 42 (by decide) f10 rfl
      simp only [List.getD_cons_succ, List.getD_cons_zero] at s10
      have f16 : fs 16 = true := by cases ho; exact HAf.out ⟨16, .data⟩ (by simp) rfl
      have s16 := HA.out 16 48 (by decide) f16 rfl
      simp only [List.getD_cons_succ, List.getD_cons_zero] at s16
      clear HAf HA HZ f10 f16
      cases ho
      go_simp
      exact HK.out _ HJ.out
    · intro o ho fs W HFi HAf HJ A HA HZ K' HK
      have f17 : fs 17 = true := by cases ho; exact HAf.out ⟨17, .data⟩ (by simp) rfl
      have s17 := HA.out 17 49 (by decide) f17 rfl
      simp only [List.getD_cons_succ, List.getD_cons_zero] at s17
      clear HAf HA HZ f17
      cases ho
      go_simp
      exact HK.out _ HJ.out
    · intro o ho fs W HFi HAf HJ A HA HZ K' HK
      have z1 : A.tmps[1]? = some _ := HZ.out 1 (by decide)
      have f18 : fs 18 = true := by cases ho; exact HAf.out ⟨18, .guard⟩ (by simp) rfl
      have s18 := HA.out 18 50 (by decide) f18 rfl
      simp only [List.getD_cons_succ, List.getD_cons_zero] at s18
      clear HAf HA HZ f18
      cases ho
      go_simp
      exact HK.out _ HJ.out
    · intro o ho fs W HFi HAf HJ A HA HZ K' HK
      have f19 : fs 19 = true := by cases ho; exact HAf.out ⟨19, .data⟩ (by simp) rfl
      have s19 := HA.out 19 51 (by decide) f19 rfl
      simp only [List.getD_cons_succ, List.getD_cons_zero] at s19
      have f18 : fs 18 = true := by cases ho; exact HAf.out ⟨18, .guard⟩ (by simp) rfl
      have s18 := HA.out 18 50 (by decide) f18 rfl
      simp only [List.getD_cons_succ, List.getD_cons_zero] at s18
      clear HAf HA HZ f19 f18
      obtain ⟨c0, c1, c2, c3, -⟩ := four_cells HJ.out.1
      cases ho
      go_simp
      exact HK.out _ HJ.out
    · intro o ho fs W HFi HAf HJ A HA HZ K' HK
      have f20 : fs 20 = true := by cases ho; exact HAf.out ⟨20, .data⟩ (by simp) rfl
      have s20 := HA.out 20 52 (by decide) f20 rfl
      simp only [List.getD_cons_succ, List.getD_cons_zero] at s20
      have f18 : fs 18 = true := by cases ho; exact HAf.out ⟨18, .guard⟩ (by simp) rfl
      have s18 := HA.out 18 50 (by decide) f18 rfl
      simp only [List.getD_cons_succ, List.getD_cons_zero] at s18
      clear HAf HA HZ f20 f18
      cases ho
      go_simp
      exact HK.out _ HJ.out
    · intro o ho fs W HFi HAf HJ A HA HZ K' HK
      have f21 : fs 21 = true := by cases ho; exact HAf.out ⟨21, .data⟩ (by simp) rfl
      have s21 := HA.out 21 53 (by decide) f21 rfl
      simp only [List.getD_cons_succ, List.getD_cons_zero] at s21
      have f18 : fs 18 = true := by cases ho; exact HAf.out ⟨18, .chain⟩ (by simp) rfl
      have s18 := HA.out 18 50 (by decide) f18 rfl
      simp only [List.getD_cons_succ, List.getD_cons_zero] at s18
      clear HAf HA HZ f21 f18
      cases ho
      go_simp
      exact HK.out _ HJ.out
    · intro o ho fs W HFi HAf HJ A HA HZ K' HK
      have f22 : fs 22 = true := by cases ho; exact HAf.out ⟨22, .data⟩ (by simp) rfl
      have s22 := HA.out 22 54 (by decide) f22 rfl
      simp only [List.getD_cons_succ, List.getD_cons_zero] at s22
      have f18 : fs 18 = true := by cases ho; exact HAf.out ⟨18, .guard⟩ (by simp) rfl
      have s18 := HA.out 18 50 (by decide) f18 rfl
      simp only [List.getD_cons_succ, List.getD_cons_zero] at s18
      clear HAf HA HZ f22 f18
      cases ho
      go_simp
      exact HK.out _ HJ.out
    · intro o ho fs W HFi HAf HJ A HA HZ K' HK
      have z1 : A.tmps[1]? = some _ := HZ.out 1 (by decide)
      have f23 : fs 23 = true := by cases ho; exact HAf.out ⟨23, .guard⟩ (by simp) rfl
      have s23 := HA.out 23 55 (by decide) f23 rfl
      simp only [List.getD_cons_succ, List.getD_cons_zero] at s23
      clear HAf HA HZ f23
      cases ho
      go_simp
      exact HK.out _ HJ.out
    · intro o ho fs W HFi HAf HJ A HA HZ K' HK
      have f24 : fs 24 = true := by cases ho; exact HAf.out ⟨24, .data⟩ (by simp) rfl
      have s24 := HA.out 24 56 (by decide) f24 rfl
      simp only [List.getD_cons_succ, List.getD_cons_zero] at s24
      have f23 : fs 23 = true := by cases ho; exact HAf.out ⟨23, .guard⟩ (by simp) rfl
      have s23 := HA.out 23 55 (by decide) f23 rfl
      simp only [List.getD_cons_succ, List.getD_cons_zero] at s23
      clear HAf HA HZ f24 f23
      obtain ⟨c0, c1, c2, c3, -⟩ := four_cells HJ.out.1
      cases ho
      go_simp
      exact HK.out _ HJ.out
    · intro o ho fs W HFi HAf HJ A HA HZ K' HK
      have f25 : fs 25 = true := by cases ho; exact HAf.out ⟨25, .data⟩ (by simp) rfl
      have s25 := HA.out 25 57 (by decide) f25 rfl
      simp only [List.getD_cons_succ, List.getD_cons_zero] at s25
      have f23 : fs 23 = true := by cases ho; exact HAf.out ⟨23, .guard⟩ (by simp) rfl
      have s23 := HA.out 23 55 (by decide) f23 rfl
      simp only [List.getD_cons_succ, List.getD_cons_zero] at s23
      clear HAf HA HZ f25 f23
      cases ho
      go_simp
      exact HK.out _ HJ.out
    · intro o ho fs W HFi HAf HJ A HA HZ K' HK
      have f26 : fs 26 = true := by cases ho; exact HAf.out ⟨26, .data⟩ (by simp) rfl
      have s26 := HA.out 26 58 (by decide) f26 rfl
      simp only [List.getD_cons_succ, List.getD_cons_zero] at s26
      have f23 : fs 23 = true := by cases ho; exact HAf.out ⟨23, .guard⟩ (by simp) rfl
      have s23 := HA.out 23 55 (by decide) f23 rfl
      simp only [List.getD_cons_succ, List.getD_cons_zero] at s23
      clear HAf HA HZ f26 f23
      cases ho
      go_simp
      exact HK.out _ HJ.out
    · intro o ho fs W HFi HAf HJ A HA HZ K' HK
      have f23 : fs 23 = true := by cases ho; exact HAf.out ⟨23, .data⟩ (by simp) rfl
      have s23 := HA.out 23 55 (by decide) f23 rfl
      simp only [List.getD_cons_succ, List.getD_cons_zero] at s23
      have f27 : fs 27 = true := by cases ho; exact HAf.out ⟨27, .data⟩ (by simp) rfl
      have s27 := HA.out 27 59 (by decide) f27 rfl
      simp only [List.getD_cons_succ, List.getD_cons_zero] at s27
      have f18 : fs 18 = true := by cases ho; exact HAf.out ⟨18, .guard⟩ (by simp) rfl
      have s18 := HA.out 18 50 (by decide) f18 rfl
      simp only [List.getD_cons_succ, List.getD_cons_zero] at s18
      clear HAf HA HZ f23 f27 f18
      cases ho
      go_simp
      exact HK.out _ HJ.out
    · intro o ho fs W HFi HAf HJ A HA HZ K' HK
      have f18 : fs 18 = true := by cases ho; exact HAf.out ⟨18, .data⟩ (by simp) rfl
      have s18 := HA.out 18 50 (by decide) f18 rfl
      simp only [List.getD_cons_succ, List.getD_cons_zero] at s18
      have f28 : fs 28 = true := by cases ho; exact HAf.out ⟨28, .data⟩ (by simp) rfl
      have s28 := HA.out 28 60 (by decide) f28 rfl
      simp only [List.getD_cons_succ, List.getD_cons_zero] at s28
      clear HAf HA HZ f18 f28
      cases ho
      go_simp
      exact HK.out _ HJ.out
  · intro W hJ
    simp only [canon, Act.put, List.getD_cons_succ, List.getD_cons_zero, List.drop_succ_cons, List.drop_zero, List.setIfInBounds_toArray, List.set_cons_zero, List.set_cons_succ]
    have HW := Lib.hid hJ.2
    clear hJ
    go_wp2_with fail
    go_ret
    exact ⟨rfl, HW.out⟩
set_option maxRecDepth 100000 in
set_option maxHeartbeats 8000000 in
theorem rValid_2long (k : Int) (tx : List UInt8) (n : Nat) (pos : Int) (w : World) (hk : k = 2) (hn : n = 0) (ht : tx ≠ []) (hw : ¬ tx.length ≤ 32) :
    Calls Tryz.prog 19 #[.agg #[.int .i64 k, .string (ba tx), .int .u64 (n : Int), .int .i64 pos]] w fun e w' => e = .returned (.bool false) ∧ Below w.heap.size w w' := by
  subst hn
  have x3 : (k == 3) = false := by simp; omega
  have x1 : (k == 1) = false := by simp; omega
  have x2 : (k == 2) = true := by simp; omega
  have x4 : (k == 4) = false := by simp; omega
  have x5 : (k == 5) = false := by simp; omega
  have x6 : (k == 6) = false := by simp; omega
  clear hk
  have s1 : ((ba tx).size : Int) = (tx.length : Int) := by rw [ba_size]
  have hks2 : 0 < tx.length := by cases tx with | nil => exact absurd rfl ht | cons c r => simp
  have hks : 0 < (ba tx).size := by rw [ba_size]; exact hks2
  have x0 : (1 : Int) ≤ (tx.length : Int) := by omega
  have xl : ¬ (tx.length : Int) ≤ 32 := by omega
  clear ht hw
  go_enter Tryz.func19, Tryz.ntmps19
  go_upto_region 9 with (fail)
  have HB0 := Lib.hid (show (fun W : World => W.heap[w.heap.size]? = some (.cells #[.int .i64 k, .string (ba tx), .int .u64 ((0 : Nat) : Int), .int .i64 pos] 36 (0, 0)) ∧ Below w.heap.size w W) (w.alloc (.cells #[.int .i64 k, .string (ba tx), .int .u64 ((0 : Nat) : Int), .int .i64 pos] 36 (0, 0))).drew from ⟨heap_alloc_new w _, (below_alloc w _).drew⟩)
  refine' wp_region_fix (by kernel_rfl) 30 [some 32, some 33, some 34, some 35, some 36, some 37, some 38, some 39, some 40, some 41, some 42, some 43, some 44, some 45, some 46, some 47, some 48, some 49, some 50, some 51, some 52, some 53, some 54, some 55, some 56, some 57, some 58, some 59, some 60, some 61] [_, _, _, _, _, _, _, _, _, _, _, _, _, _, _, _, _, _, _, _, _, _, _, _, _, _, _, _, _, _] [] (fun _ W => W.heap[w.heap.size]? = some (.cells #[.int .i64 k, .string (ba tx), .int .u64 ((0 : Nat) : Int), .int .i64 pos] 36 (0, 0)) ∧ Below w.heap.size w W) (by kernel_rfl) (by decide) (by kernel_rfl) (by decide) (by rfl) (by decide) (HB0.out) ?_ ?_
  rotate_left 30
  · refine all_cons 0 ?_ (all_cons 1 ?_ (all_cons 2 ?_ (all_cons 3 ?_ (all_cons 4 ?_ (all_cons 5 ?_ (all_cons 6 ?_ (all_cons 7 ?_ (all_cons 8 ?_ (all_cons 9 ?_ (all_cons 10 ?_ (all_cons 11 ?_ (all_cons 12 ?_ (all_cons 13 ?_ (all_cons 14 ?_ (all_cons 15 ?_ (all_cons 16 ?_ (all_cons 17 ?_ (all_cons 18 ?_ (all_cons 19 ?_ (all_cons 20 ?_ (all_cons 21 ?_ (all_cons 22 ?_ (all_cons 23 ?_ (all_cons 24 ?_ (all_cons 25 ?_ (all_cons 26 ?_ (all_cons 27 ?_ (all_cons 28 ?_ (all_cons 29 ?_ (all_done 30))))))))))))))))))))))))))))))
    · intro o ho fs W HFi HAf HJ A HA HZ K' HK
      have z1 : A.tmps[1]? = some _ := HZ.out 1 (by decide)
      clear HAf HA HZ
      cases ho
      go_simp
      exact HK.out _ HJ.out
    · intro o ho fs W HFi HAf HJ A HA HZ K' HK
      have f0 : fs 0 = true := by cases ho; exact HAf.out ⟨0, .data⟩ (by simp) rfl
      have s0 := HA.out 0 32 (by decide) f0 rfl
      simp only [List.getD_cons_zero] at s0
      clear HAf HA HZ f0
      obtain ⟨c0, c1, c2, c3, -⟩ := four_cells HJ.out.1
      cases ho
      go_simp
      exact HK.out _ HJ.out
    · intro o ho fs W HFi HAf HJ A HA HZ K' HK
      have f1 : fs 1 = true := by cases ho; exact HAf.out ⟨1, .data⟩ (by simp) rfl
      have s1 := HA.out 1 33 (by decide) f1 rfl
      simp only [List.getD_cons_succ, List.getD_cons_zero] at s1
      clear HAf HA HZ f1
      cases ho
      go_simp
      exact HK.out _ HJ.out
    · intro o ho fs W HFi HAf HJ A HA HZ K' HK
      have f2 : fs 2 = true := by cases ho; exact HAf.out ⟨2, .data⟩ (by simp) rfl
      have s2 := HA.out 2 34 (by decide) f2 rfl
      simp only [List.getD_cons_succ, List.getD_cons_zero] at s2
      clear HAf HA HZ f2
      cases ho
      go_simp
      exact HK.out _ HJ.out
    · intro o ho fs W HFi HAf HJ A HA HZ K' HK
      have f3 : fs 3 = true := by cases ho; exact HAf.out ⟨3, .data⟩ (by simp) rfl
      have s3 := HA.out 3 35 (by decide) f3 rfl
      simp only [List.getD_cons_succ, List.getD_cons_zero] at s3
      clear HAf HA HZ f3
      cases ho
      go_simp
      exact HK.out _ HJ.out
    · intro o ho fs W HFi HAf HJ A HA HZ K' HK
      have z1 : A.tmps[1]? = some _ := HZ.out 1 (by decide)
      have f4 : fs 4 = true := by cases ho; exact HAf.out ⟨4, .guard⟩ (by simp) rfl
      have s4 := HA.out 4 36 (by decide) f4 rfl
      simp only [List.getD_cons_succ, List.getD_cons_zero] at s4
      clear HAf HA HZ f4
      cases ho
      go_simp
      exact HK.out _ HJ.out
    · intro o ho fs W HFi HAf HJ A HA HZ K' HK
      have f5 : fs 5 = true := by cases ho; exact HAf.out ⟨5, .data⟩ (by simp) rfl
      have s5 := HA.out 5 37 (by decide) f5 rfl
      simp only [List.getD_cons_succ, List.getD_cons_zero] at s5
      have f4 : fs 4 = true := by cases ho; exact HAf.out ⟨4, .guard⟩ (by simp) rfl
      have s4 := HA.out 4 36 (by decide) f4 rfl
      simp only [List.getD_cons_succ, List.getD_cons_zero] at s4
      clear HAf HA HZ f5 f4
      obtain ⟨c0, c1, c2, c3, -⟩ := four_cells HJ.out.1
      cases ho
      go_simp
      exact HK.out _ HJ.out
    · intro o ho fs W HFi HAf HJ A HA HZ K' HK
      have f6 : fs 6 = true := by cases ho; exact HAf.out ⟨6, .data⟩ (by simp) rfl
      have s6 := HA.out 6 38 (by decide) f6 rfl
      simp only [List.getD_cons_succ, List.getD_cons_zero] at s6
      have f4 : fs 4 = true := by cases ho; exact HAf.out ⟨4, .guard⟩ (by simp) rfl
      have s4 := HA.out 4 36 (by decide) f4 rfl
      simp only [List.getD_cons_succ, List.getD_cons_zero] at s4
      clear HAf HA HZ f6 f4
      cases ho
      go_simp
      exact HK.out _ HJ.out
    · intro o ho fs W HFi HAf HJ A HA HZ K' HK
      have f7 : fs 7 = true := by cases ho; exact HAf.out ⟨7, .data⟩ (by simp) rfl
      have s7 := HA.out 7 39 (by decide) f7 rfl
      simp only [List.getD_cons_succ, List.getD_cons_zero] at s7
      have f4 : fs 4 = true := by cases ho; exact HAf.out ⟨4, .guard⟩ (by simp) rfl
      have s4 := HA.out 4 36 (by decide) f4 rfl
      simp only [List.getD_cons_succ, List.getD_cons_zero] at s4
      clear HAf HA HZ f7 f4
      cases ho
      go_simp
      exact HK.out _ HJ.out
    · intro o ho fs W HFi HAf HJ A HA HZ K' HK
      have f4 : fs 4 = true := by cases ho; exact HAf.out ⟨4, .data⟩ (by simp) rfl
      have s4 := HA.out 4 36 (by decide) f4 rfl
      simp only [List.getD_cons_succ, List.getD_cons_zero] at s4
      have f8 : fs 8 = true := by cases ho; exact HAf.out ⟨8, .data⟩ (by simp) rfl
      have s8 := HA.out 8 40 (by decide) f8 rfl
      simp only [List.getD_cons_succ, List.getD_cons_zero] at s8
      clear HAf HA HZ f4 f8
      cases ho
      go_simp
      exact HK.out _ HJ.out
    · intro o ho fs W HFi HAf HJ A HA HZ K' HK
      have f9 : fs 9 = true := by cases ho; exact HAf.out ⟨9, .data⟩ (by simp) rfl
      have s9 := HA.out 9 41 (by decide) f9 rfl
      simp only [List.getD_cons_succ, List.getD_cons_zero] at s9
      clear HAf HA HZ f9
      cases ho
      go_simp
      exact HK.out _ HJ.out
    · intro o ho fs W HFi HAf HJ A HA HZ K' HK
      have z1 : A.tmps[1]? = some _ := HZ.out 1 (by decide)
      have f10 : fs 10 = true := by cases ho; exact HAf.out ⟨10, .guard⟩ (by simp) rfl
      have s10 := HA.out 10 42 (by decide) f10 rfl
      simp only [List.getD_cons_succ, List.getD_cons_zero] at s10
      clear HAf HA HZ f10
      cases ho
      go_simp
      exact HK.out _ HJ.out
    · intro o ho fs W HFi HAf HJ A HA HZ K' HK
      have f11 : fs 11 = true := by cases ho; exact HAf.out ⟨11, .data⟩ (by simp) rfl
      have s11 := HA.out 11 43 (by decide) f11 rfl
      simp only [List.getD_cons_succ, List.getD_cons_zero] at s11
      have f10 : fs 10 = true := by cases ho; exact HAf.out ⟨10, .guard⟩ (by simp) rfl
      have s10 := HA.out 10 42 (by decide) f10 rfl
      simp only [List.getD_cons_succ, List.getD_cons_zero] at s10
      clear HAf HA HZ f11 f10
      obtain ⟨c0, c1, c2, c3, -⟩ := four_cells HJ.out.1
      cases ho
      go_simp
      exact HK.out _ HJ.out
    · intro o ho fs W HFi HAf HJ A HA HZ K' HK
      have f12 : fs 12 = true := by cases ho; exact HAf.out ⟨12, .data⟩ (by simp) rfl
      have s12 := HA.out 12 44 (by decide) f12 rfl
      simp only [List.getD_cons_succ, List.getD_cons_zero] at s12
      have f10 : fs 10 = true := by cases ho; exact HAf.out ⟨10, .chain⟩ (by simp) rfl
      have s10 := HA.out 10 42 (by decide) f10 rfl
      simp only [List.getD_cons_succ, List.getD_cons_zero] at s10
      clear HAf HA HZ f12 f10
      cases ho
      go_simp
      exact HK.out _ HJ.out
    · intro o ho fs W HFi HAf HJ A HA HZ K' HK
      have z1 : A.tmps[1]? = some _ := HZ.out 1 (by decide)
      have f10 : fs 10 = true := by cases ho; exact HAf.out ⟨10, .guard⟩ (by simp) rfl
      have s10 := HA.out 10 42 (by decide) f10 rfl
      simp only [List.getD_cons_succ, List.getD_cons_zero] at s10
      clear HAf HA HZ f10
      cases ho
      go_simp
      exact HK.out _ HJ.out
    · intro o ho fs W HFi HAf HJ A HA HZ K' HK
      have f14 : fs 14 = true := by cases ho; exact HAf.out ⟨14, .data⟩ (by simp) rfl
      have s14 := HA.out 14 46 (by decide) f14 rfl
      simp only [List.getD_cons_succ, List.getD_cons_zero] at s14
      have f10 : fs 10 = true := by cases ho; exact HAf.out ⟨10, .guard⟩ (by simp) rfl
      have s10 := HA.out 10 42 (by decide) f10 rfl
      simp only [List.getD_cons_succ, List.getD_cons_zero] at s10
      clear HAf HA HZ f14 f10
      obtain ⟨c0, c1, c2, c3, -⟩ := four_cells HJ.out.1
      cases ho
      go_simp
      exact HK.out _ HJ.out
    · intro o ho fs W HFi HAf HJ A HA HZ K' HK
      have f13 : fs 13 = true := by cases ho; exact HAf.out ⟨13, .data⟩ (by simp) rfl
      have s13 := HA.out 13 45 (by decide) f13 rfl
      simp only [List.getD_cons_succ, List.getD_cons_zero] at s13
      have f15 : fs 15 = true := by cases ho; exact HAf.out ⟨15, .data⟩ (by simp) rfl
      have s15 := HA.out 15 47 (by decide) f15 rfl
      simp only [List.getD_cons_succ, List.getD_cons_zero] at s15
      have f10 : fs 10 = true := by cases ho; exact HAf.out ⟨10, .guard⟩ (by simp) rfl
      have s10 := HA.out 10 42 (by decide) f10 rfl
      simp only [List.getD_cons_succ, List.getD_cons_zero] at s10
      clear HAf HA HZ f13 f15 f10
      cases ho
      go_simp
      exact HK.out _ HJ.out
    · intro o ho fs W HFi HAf HJ A HA HZ K' HK
      have f10 : fs 10 = true := by cases ho; exact HAf.out ⟨10, .data⟩ (by simp) rfl
      have s10 := HA.out 10 42 (by decide) f10 rfl
      simp only [List.getD_cons_succ, List.getD_cons_zero] at s10
      have f16 : fs 16 = true := by cases ho; exact HAf.out ⟨16, .data⟩ (by simp) rfl
      have s16 := HA.out 16 48 (by decide) f16 rfl
      simp only [List.getD_cons_succ, List.getD_cons_zero] at s16
      clear HAf HA HZ f10 f16
      cases ho
      go_simp
      exact HK.out _ HJ.out
    · intro o ho fs W HFi HAf HJ A HA HZ K' HK
      have f17 : fs 17 = true := by cases ho; exact HAf.out ⟨17, .data⟩ (by simp) rfl
      have s17 := HA.out 17 49 (by decide) f17 rfl
      simp only [List.getD_cons_succ, List.getD_cons_zero] at s17
      clear HAf HA HZ f17
      cases ho
      go_simp
      exact HK.out _ HJ.out
    · intro o ho fs W HFi HAf HJ A HA HZ K' HK
      have z1 : A.tmps[1]? = some _ := HZ.out 1 (by decide)
      have f18 : fs 18 = true := by cases ho; exact HAf.out ⟨18, .guard⟩ (by simp) rfl
      have s18 := HA.out 18 50 (by decide) f18 rfl
      simp only [List.getD_cons_succ, List.getD_cons_zero] at s18
      clear HAf HA HZ f18
      cases ho
      go_simp
      exact HK.out _ HJ.out
    · intro o ho fs W HFi HAf HJ A HA HZ K' HK
      have f19 : fs 19 = true := by cases ho; exact HAf.out ⟨19, .data⟩ (by simp) rfl
      have s19 := HA.out 19 51 (by decide) f19 rfl
      simp only [List.getD_cons_succ, List.getD_cons_zero] at s19
      have f18 : fs 18 = true := by cases ho; exact HAf.out ⟨18, .guard⟩ (by simp) rfl
      have s18 := HA.out 18 50 (by decide) f18 rfl
      simp only [List.getD_cons_succ, List.getD_cons_zero] at s18
      clear HAf HA HZ f19 f18
      obtain ⟨c0, c1, c2, c3, -⟩ := four_cells HJ.out.1
      cases ho
      go_simp
      exact HK.out _ HJ.out
    · intro o ho fs W HFi HAf HJ A HA HZ K' HK
      have f20 : fs 20 = true := by cases ho; exact HAf.out ⟨20, .data⟩ (by simp) rfl
      have s20 := HA.out 20 52 (by decide) f20 rfl
      simp only [List.getD_cons_succ, List.getD_cons_zero] at s20
      have f18 : fs 18 = true := by cases ho; exact HAf.out ⟨18, .guard⟩ (by simp) rfl
      have s18 := HA.out 18 50 (by decide) f18 rfl
      simp only [List.getD_cons_succ, List.getD_cons_zero] at s18
      clear HAf HA HZ f20 f18
      cases ho
      go_simp
      exact HK.out _ HJ.out
    · intro o ho fs W HFi HAf HJ A HA HZ K' HK
      have f21 : fs 21 = true := by cases ho; exact HAf.out ⟨21, .data⟩ (by simp) rfl
      have s21 := HA.out 21 53 (by decide) f21 rfl
      simp only [List.getD_cons_succ, List.getD_cons_zero] at s21
      have f18 : fs 18 = true := by cases ho; exact HAf.out ⟨18, .chain⟩ (by simp) rfl
      have s18 := HA.out 18 50 (by decide) f18 rfl
      simp only [List.getD_cons_succ, List.getD_cons_zero] at s18
      clear HAf HA HZ f21 f18
      cases ho
      go_simp
      exact HK.out _ HJ.out
    · intro o ho fs W HFi HAf HJ A HA HZ K' HK
      have f22 : fs 22 = true := by cases ho; exact HAf.out ⟨22, .data⟩ (by simp) rfl
      have s22 := HA.out 22 54 (by decide) f22 rfl
      simp only [List.getD_cons_succ, List.getD_cons_zero] at s22
      have f18 : fs 18 = true := by cases ho; exact HAf.out ⟨18, .guard⟩ (by simp) rfl
      have s18 := HA.out 18 50 (by decide) f18 rfl
      simp only [List.getD_cons_succ, List.getD_cons_zero] at s18
      clear HAf HA HZ f22 f18
      cases ho
      go_simp
      exact HK.out _ HJ.out
    · intro o ho fs W HFi HAf HJ A HA HZ K' HK
      have z1 : A.tmps[1]? = some _ := HZ.out 1 (by decide)
      have f23 : fs 23 = true := by cases ho; exact HAf.out ⟨23, .guard⟩ (by simp) rfl
      have s23 := HA.out 23 55 (by decide) f23 rfl
      simp only [List.getD_cons_succ, List.getD_cons_zero] at s23
      clear HAf HA HZ f23
      cases ho
      go_simp
      exact HK.out _ HJ.out
    · intro o ho fs W HFi HAf HJ A HA HZ K' HK
      have f24 : fs 24 = true := by cases ho; exact HAf.out ⟨24, .data⟩ (by simp) rfl
      have s24 := HA.out 24 56 (by decide) f24 rfl
      simp only [List.getD_cons_succ, List.getD_cons_zero] at s24
      have f23 : fs 23 = true := by cases ho; exact HAf.out ⟨23, .guard⟩ (by simp) rfl
      have s23 := HA.out 23 55 (by decide) f23 rfl
      simp only [List.getD_cons_succ, List.getD_cons_zero] at s23
      clear HAf HA HZ f24 f23
      obtain ⟨c0, c1, c2, c3, -⟩ := four_cells HJ.out.1
      cases ho
      go_simp
      exact HK.out _ HJ.out
    · intro o ho fs W HFi HAf HJ A HA HZ K' HK
      have f25 : fs 25 = true := by cases ho; exact HAf.out ⟨25, .data⟩ (by simp) rfl
      have s25 := HA.out 25 57 (by decide) f25 rfl
      simp only [List.getD_cons_succ, List.getD_cons_zero] at s25
      have f23 : fs 23 = true := by cases ho; exact HAf.out ⟨23, .guard⟩ (by simp) rfl
      have s23 := HA.out 23 55 (by decide) f23 rfl
      simp only [List.getD_cons_succ, List.getD_cons_zero] at s23
      clear HAf HA HZ f25 f23
      cases ho
      go_simp
      exact HK.out _ HJ.out
    · intro o ho fs W HFi HAf HJ A HA HZ K' HK
      have f26 : fs 26 = true := by cases ho; exact HAf.out ⟨26, .data⟩ (by simp) rfl
      have s26 := HA.out 26 58 (by decide) f26 rfl
      simp only [List.getD_cons_succ, List.getD_cons_zero] at s26
      have f23 : fs 23 = true := by cases ho; exact HAf.out ⟨23, .guard⟩ (by simp) rfl
      have s23 := HA.out 23 55 (by decide) f23 rfl
      simp only [List.getD_cons_succ, List.getD_cons_zero] at s23
      clear HAf HA HZ f26 f23
      cases ho
      go_simp
      exact HK.out _ HJ.out
    · intro o ho fs W HFi HAf HJ A HA HZ K' HK
      have f23 : fs 23 = true := by cases ho; exact HAf.out ⟨23, .data⟩ (by simp) rfl
      have s23 := HA.out 23 55 (by decide) f23 rfl
      simp only [List.getD_cons_succ, List.getD_cons_zero] at s23
      have f27 : fs 27 = true := by cases ho; exact HAf.out ⟨27, .data⟩ (by simp) rfl
      have s27 := HA.out 27 59 (by decide) f27 rfl
      simp only [List.getD_cons_succ, List.getD_cons_zero] at s27
      have f18 : fs 18 = true := by cases ho; exact HAf.out ⟨18, .guard⟩ (by simp) rfl
      have s18 := HA.out 18 50 (by decide) f18 rfl
      simp only [List.getD_cons_succ, List.getD_cons_zero] at s18
      clear HAf HA HZ f23 f27 f18
      cases ho
      go_simp
      exact HK.out _ HJ.out
    · intro o ho fs W HFi HAf HJ A HA HZ K' HK
      have f18 : fs 18 = true := by cases ho; exact HAf.out ⟨18, .data⟩ (by simp) rfl
      have s18 := HA.out 18 50 (by decide) f18 rfl
      simp only [List.getD_cons_succ, List.getD_cons_zero] at s18
      have f28 : fs 28 = true := by cases ho; exact HAf.out ⟨28, .data⟩ (by simp) rfl
      have s28 := HA.out 28 60 (by decide) f28 rfl
      simp only [List.getD_cons_succ, List.getD_cons_zero] at s28
      clear HAf HA HZ f18 f28
      cases ho
      go_simp
      exact HK.out _ HJ.out
  · intro W hJ
    simp only [canon, Act.put, List.getD_cons_succ, List.getD_cons_zero, List.drop_succ_cons, List.drop_zero, List.setIfInBounds_toArray, List.set_cons_zero, List.set_cons_succ]
    have HW := Lib.hid hJ.2
    clear hJ
    go_wp2_with fail
    go_ret
    exact ⟨rfl, HW.out⟩
set_option maxRecDepth 100000 in
set_option maxHeartbeats 8000000 in
theorem rValid_2not (k : Int) (tx : List UInt8) (n : Nat) (pos : Int) (w : World) (hk : k = 2) (hn : n = 0) (ht : tx ≠ []) (hl : tx.length ≤ 32) (hw : ¬ tx.takeWhile namC = tx) :
    Calls Tryz.prog 19 #[.agg #[.int .i64 k, .string (ba tx), .int .u64 (n : Int), .int .i64 pos]] w fun e w' => e = .returned (.bool false) ∧ Below w.heap.size w w' := by
  subst hn
  have x3 : (k == 3) = false := by simp; omega
  have x1 : (k == 1) = false := by simp; omega
  have x2 : (k == 2) = true := by simp; omega
  have x4 : (k == 4) = false := by simp; omega
  have x5 : (k == 5) = false := by simp; omega
  have x6 : (k == 6) = false := by simp; omega
  clear hk
  have s1 : ((ba tx).size : Int) = (tx.length : Int) := by rw [ba_size]
  have hks2 : 0 < tx.length := by cases tx with | nil => exact absurd rfl ht | cons c r => simp
  have hks : 0 < (ba tx).size := by rw [ba_size]; exact hks2
  have x0 : (1 : Int) ≤ (tx.length : Int) := by omega
  have xl : (tx.length : Int) ≤ 32 := by omega
  clear ht
  have xq : ((ba (tx.takeWhile namC)).toList == (ba tx).toList) = false := by rw [ba_toList, ba_toList]; simpa using hw
  clear hw
  have HNm := Lib.hid fun W => name_r tx W (by omega)
  go_enter Tryz.func19, Tryz.ntmps19
  go_upto_region 9 with (fail)
  have HB0 := Lib.hid (show (fun W : World => W.heap[w.heap.size]? = some (.cells #[.int .i64 k, .string (ba tx), .int .u64 ((0 : Nat) : Int), .int .i64 pos] 36 (0, 0)) ∧ Below w.heap.size w W) (w.alloc (.cells #[.int .i64 k, .string (ba tx), .int .u64 ((0 : Nat) : Int), .int .i64 pos] 36 (0, 0))).drew from ⟨heap_alloc_new w _, (below_alloc w _).drew⟩)
  refine' wp_region_fix (by kernel_rfl) 30 [some 32, some 33, some 34, some 35, some 36, some 37, some 38, some 39, some 40, some 41, some 42, some 43, some 44, some 45, some 46, some 47, some 48, some 49, some 50, some 51, some 52, some 53, some 54, some 55, some 56, some 57, some 58, some 59, some 60, some 61] [_, _, _, _, _, _, _, _, _, _, _, _, _, _, _, _, _, _, _, _, _, _, _, _, _, _, _, _, _, _] [] (fun _ W => W.heap[w.heap.size]? = some (.cells #[.int .i64 k, .string (ba tx), .int .u64 ((0 : Nat) : Int), .int .i64 pos] 36 (0, 0)) ∧ Below w.heap.size w W) (by kernel_rfl) (by decide) (by kernel_rfl) (by decide) (by rfl) (by decide) (HB0.out) ?_ ?_
  rotate_left 30
  · refine all_cons 0 ?_ (all_cons 1 ?_ (all_cons 2 ?_ (all_cons 3 ?_ (all_cons 4 ?_ (all_cons 5 ?_ (all_cons 6 ?_ (all_cons 7 ?_ (all_cons 8 ?_ (all_cons 9 ?_ (all_cons 10 ?_ (all_cons 11 ?_ (all_cons 12 ?_ (all_cons 13 ?_ (all_cons 14 ?_ (all_cons 15 ?_ (all_cons 16 ?_ (all_cons 17 ?_ (all_cons 18 ?_ (all_cons 19 ?_ (all_cons 20 ?_ (all_cons 21 ?_ (all_cons 22 ?_ (all_cons 23 ?_ (all_cons 24 ?_ (all_cons 25 ?_ (all_cons 26 ?_ (all_cons 27 ?_ (all_cons 28 ?_ (all_cons 29 ?_ (all_done 30))))))))))))))))))))))))))))))
    · intro o ho fs W HFi HAf HJ A HA HZ K' HK
      have z1 : A.tmps[1]? = some _ := HZ.out 1 (by decide)
      clear HAf HA HZ
      cases ho
      go_simp
      exact HK.out _ HJ.out
    · intro o ho fs W HFi HAf HJ A HA HZ K' HK
      have f0 : fs 0 = true := by cases ho; exact HAf.out ⟨0, .data⟩ (by simp) rfl
      have s0 := HA.out 0 32 (by decide) f0 rfl
      simp only [List.getD_cons_zero] at s0
      clear HAf HA HZ f0
      obtain ⟨c0, c1, c2, c3, -⟩ := four_cells HJ.out.1
      cases ho
      go_simp
      exact HK.out _ HJ.out
    · intro o ho fs W HFi HAf HJ A HA HZ K' HK
      have f1 : fs 1 = true := by cases ho; exact HAf.out ⟨1, .data⟩ (by simp) rfl
      have s1 := HA.out 1 33 (by decide) f1 rfl
      simp only [List.getD_cons_succ, List.getD_cons_zero] at s1
      clear HAf HA HZ f1
      cases ho
      go_simp
      exact HK.out _ HJ.out
    · intro o ho fs W HFi HAf HJ A HA HZ K' HK
      have f2 : fs 2 = true := by cases ho; exact HAf.out ⟨2, .data⟩ (by simp) rfl
      have s2 := HA.out 2 34 (by decide) f2 rfl
      simp only [List.getD_cons_succ, List.getD_cons_zero] at s2
      clear HAf HA HZ f2
      cases ho
      go_simp
      exact HK.out _ HJ.out
    · intro o ho fs W HFi HAf HJ A HA HZ K' HK
      have f3 : fs 3 = true := by cases ho; exact HAf.out ⟨3, .data⟩ (by simp) rfl
      have s3 := HA.out 3 35 (by decide) f3 rfl
      simp only [List.getD_cons_succ, List.getD_cons_zero] at s3
      clear HAf HA HZ f3
      cases ho
      go_simp
      exact HK.out _ HJ.out
    · intro o ho fs W HFi HAf HJ A HA HZ K' HK
      have z1 : A.tmps[1]? = some _ := HZ.out 1 (by decide)
      have f4 : fs 4 = true := by cases ho; exact HAf.out ⟨4, .guard⟩ (by simp) rfl
      have s4 := HA.out 4 36 (by decide) f4 rfl
      simp only [List.getD_cons_succ, List.getD_cons_zero] at s4
      clear HAf HA HZ f4
      cases ho
      go_simp
      exact HK.out _ HJ.out
    · intro o ho fs W HFi HAf HJ A HA HZ K' HK
      have f5 : fs 5 = true := by cases ho; exact HAf.out ⟨5, .data⟩ (by simp) rfl
      have s5 := HA.out 5 37 (by decide) f5 rfl
      simp only [List.getD_cons_succ, List.getD_cons_zero] at s5
      have f4 : fs 4 = true := by cases ho; exact HAf.out ⟨4, .guard⟩ (by simp) rfl
      have s4 := HA.out 4 36 (by decide) f4 rfl
      simp only [List.getD_cons_succ, List.getD_cons_zero] at s4
      clear HAf HA HZ f5 f4
      obtain ⟨c0, c1, c2, c3, -⟩ := four_cells HJ.out.1
      cases ho
      go_simp
      exact HK.out _ HJ.out
    · intro o ho fs W HFi HAf HJ A HA HZ K' HK
      have f6 : fs 6 = true := by cases ho; exact HAf.out ⟨6, .data⟩ (by simp) rfl
      have s6 := HA.out 6 38 (by decide) f6 rfl
      simp only [List.getD_cons_succ, List.getD_cons_zero] at s6
      have f4 : fs 4 = true := by cases ho; exact HAf.out ⟨4, .guard⟩ (by simp) rfl
      have s4 := HA.out 4 36 (by decide) f4 rfl
      simp only [List.getD_cons_succ, List.getD_cons_zero] at s4
      clear HAf HA HZ f6 f4
      cases ho
      go_simp
      exact HK.out _ HJ.out
    · intro o ho fs W HFi HAf HJ A HA HZ K' HK
      have f7 : fs 7 = true := by cases ho; exact HAf.out ⟨7, .data⟩ (by simp) rfl
      have s7 := HA.out 7 39 (by decide) f7 rfl
      simp only [List.getD_cons_succ, List.getD_cons_zero] at s7
      have f4 : fs 4 = true := by cases ho; exact HAf.out ⟨4, .guard⟩ (by simp) rfl
      have s4 := HA.out 4 36 (by decide) f4 rfl
      simp only [List.getD_cons_succ, List.getD_cons_zero] at s4
      clear HAf HA HZ f7 f4
      cases ho
      go_simp
      exact HK.out _ HJ.out
    · intro o ho fs W HFi HAf HJ A HA HZ K' HK
      have f4 : fs 4 = true := by cases ho; exact HAf.out ⟨4, .data⟩ (by simp) rfl
      have s4 := HA.out 4 36 (by decide) f4 rfl
      simp only [List.getD_cons_succ, List.getD_cons_zero] at s4
      have f8 : fs 8 = true := by cases ho; exact HAf.out ⟨8, .data⟩ (by simp) rfl
      have s8 := HA.out 8 40 (by decide) f8 rfl
      simp only [List.getD_cons_succ, List.getD_cons_zero] at s8
      clear HAf HA HZ f4 f8
      cases ho
      go_simp
      exact HK.out _ HJ.out
    · intro o ho fs W HFi HAf HJ A HA HZ K' HK
      have f9 : fs 9 = true := by cases ho; exact HAf.out ⟨9, .data⟩ (by simp) rfl
      have s9 := HA.out 9 41 (by decide) f9 rfl
      simp only [List.getD_cons_succ, List.getD_cons_zero] at s9
      clear HAf HA HZ f9
      cases ho
      go_simp
      exact HK.out _ HJ.out
    · intro o ho fs W HFi HAf HJ A HA HZ K' HK
      have z1 : A.tmps[1]? = some _ := HZ.out 1 (by decide)
      have f10 : fs 10 = true := by cases ho; exact HAf.out ⟨10, .guard⟩ (by simp) rfl
      have s10 := HA.out 10 42 (by decide) f10 rfl
      simp only [List.getD_cons_succ, List.getD_cons_zero] at s10
      clear HAf HA HZ f10
      cases ho
      go_simp
      exact HK.out _ HJ.out
    · intro o ho fs W HFi HAf HJ A HA HZ K' HK
      have f11 : fs 11 = true := by cases ho; exact HAf.out ⟨11, .data⟩ (by simp) rfl
      have s11 := HA.out 11 43 (by decide) f11 rfl
      simp only [List.getD_cons_succ, List.getD_cons_zero] at s11
      have f10 : fs 10 = true := by cases ho; exact HAf.out ⟨10, .guard⟩ (by simp) rfl
      have s10 := HA.out 10 42 (by decide) f10 rfl
      simp only [List.getD_cons_succ, List.getD_cons_zero] at s10
      clear HAf HA HZ f11 f10
      obtain ⟨c0, c1, c2, c3, -⟩ := four_cells HJ.out.1
      cases ho
      go_simp
      exact HK.out _ HJ.out
    · intro o ho fs W HFi HAf HJ A HA HZ K' HK
      have f12 : fs 12 = true := by cases ho; exact HAf.out ⟨12, .data⟩ (by simp) rfl
      have s12 := HA.out 12 44 (by decide) f12 rfl
      simp only [List.getD_cons_succ, List.getD_cons_zero] at s12
      have f10 : fs 10 = true := by cases ho; exact HAf.out ⟨10, .chain⟩ (by simp) rfl
      have s10 := HA.out 10 42 (by decide) f10 rfl
      simp only [List.getD_cons_succ, List.getD_cons_zero] at s10
      clear HAf HA HZ
      cases ho
      go_simp
      refine (HNm.out W).mono ?_
      rintro e w' ⟨rfl, rfl⟩
      exact HK.out _ HJ.out
    · intro o ho fs W HFi HAf HJ A HA HZ K' HK
      have z1 : A.tmps[1]? = some _ := HZ.out 1 (by decide)
      have f10 : fs 10 = true := by cases ho; exact HAf.out ⟨10, .guard⟩ (by simp) rfl
      have s10 := HA.out 10 42 (by decide) f10 rfl
      simp only [List.getD_cons_succ, List.getD_cons_zero] at s10
      clear HAf HA HZ f10
      cases ho
      go_simp
      exact HK.out _ HJ.out
    · intro o ho fs W HFi HAf HJ A HA HZ K' HK
      have f14 : fs 14 = true := by cases ho; exact HAf.out ⟨14, .data⟩ (by simp) rfl
      have s14 := HA.out 14 46 (by decide) f14 rfl
      simp only [List.getD_cons_succ, List.getD_cons_zero] at s14
      have f10 : fs 10 = true := by cases ho; exact HAf.out ⟨10, .guard⟩ (by simp) rfl
      have s10 := HA.out 10 42 (by decide) f10 rfl
      simp only [List.getD_cons_succ, List.getD_cons_zero] at s10
      clear HAf HA HZ f14 f10
      obtain ⟨c0, c1, c2, c3, -⟩ := four_cells HJ.out.1
      cases ho
      go_simp
      exact HK.out _ HJ.out
    · intro o ho fs W HFi HAf HJ A HA HZ K' HK
      have f13 : fs 13 = true := by cases ho; exact HAf.out ⟨13, .data⟩ (by simp) rfl
      have s13 := HA.out 13 45 (by decide) f13 rfl
      simp only [List.getD_cons_succ, List.getD_cons_zero] at s13
      have f15 : fs 15 = true := by cases ho; exact HAf.out ⟨15, .data⟩ (by simp) rfl
      have s15 := HA.out 15 47 (by decide) f15 rfl
      simp only [List.getD_cons_succ, List.getD_cons_zero] at s15
      have f10 : fs 10 = true := by cases ho; exact HAf.out ⟨10, .guard⟩ (by simp) rfl
      have s10 := HA.out 10 42 (by decide) f10 rfl
      simp only [List.getD_cons_succ, List.getD_cons_zero] at s10
      clear HAf HA HZ f13 f15 f10
      cases ho
      go_simp
      exact HK.out _ HJ.out
    · intro o ho fs W HFi HAf HJ A HA HZ K' HK
      have f10 : fs 10 = true := by cases ho; exact HAf.out ⟨10, .data⟩ (by simp) rfl
      have s10 := HA.out 10 42 (by decide) f10 rfl
      simp only [List.getD_cons_succ, List.getD_cons_zero] at s10
      have f16 : fs 16 = true := by cases ho; exact HAf.out ⟨16, .data⟩ (by simp) rfl
      have s16 := HA.out 16 48 (by decide) f16 rfl
      simp only [List.getD_cons_succ, List.getD_cons_zero] at s16
      clear HAf HA HZ f10 f16
      cases ho
      go_simp
      exact HK.out _ HJ.out
    · intro o ho fs W HFi HAf HJ A HA HZ K' HK
      have f17 : fs 17 = true := by cases ho; exact HAf.out ⟨17, .data⟩ (by simp) rfl
      have s17 := HA.out 17 49 (by decide) f17 rfl
      simp only [List.getD_cons_succ, List.getD_cons_zero] at s17
      clear HAf HA HZ f17
      cases ho
      go_simp
      exact HK.out _ HJ.out
    · intro o ho fs W HFi HAf HJ A HA HZ K' HK
      have z1 : A.tmps[1]? = some _ := HZ.out 1 (by decide)
      have f18 : fs 18 = true := by cases ho; exact HAf.out ⟨18, .guard⟩ (by simp) rfl
      have s18 := HA.out 18 50 (by decide) f18 rfl
      simp only [List.getD_cons_succ, List.getD_cons_zero] at s18
      clear HAf HA HZ f18
      cases ho
      go_simp
      exact HK.out _ HJ.out
    · intro o ho fs W HFi HAf HJ A HA HZ K' HK
      have f19 : fs 19 = true := by cases ho; exact HAf.out ⟨19, .data⟩ (by simp) rfl
      have s19 := HA.out 19 51 (by decide) f19 rfl
      simp only [List.getD_cons_succ, List.getD_cons_zero] at s19
      have f18 : fs 18 = true := by cases ho; exact HAf.out ⟨18, .guard⟩ (by simp) rfl
      have s18 := HA.out 18 50 (by decide) f18 rfl
      simp only [List.getD_cons_succ, List.getD_cons_zero] at s18
      clear HAf HA HZ f19 f18
      obtain ⟨c0, c1, c2, c3, -⟩ := four_cells HJ.out.1
      cases ho
      go_simp
      exact HK.out _ HJ.out
    · intro o ho fs W HFi HAf HJ A HA HZ K' HK
      have f20 : fs 20 = true := by cases ho; exact HAf.out ⟨20, .data⟩ (by simp) rfl
      have s20 := HA.out 20 52 (by decide) f20 rfl
      simp only [List.getD_cons_succ, List.getD_cons_zero] at s20
      have f18 : fs 18 = true := by cases ho; exact HAf.out ⟨18, .guard⟩ (by simp) rfl
      have s18 := HA.out 18 50 (by decide) f18 rfl
      simp only [List.getD_cons_succ, List.getD_cons_zero] at s18
      clear HAf HA HZ f20 f18
      cases ho
      go_simp
      exact HK.out _ HJ.out
    · intro o ho fs W HFi HAf HJ A HA HZ K' HK
      have f21 : fs 21 = true := by cases ho; exact HAf.out ⟨21, .data⟩ (by simp) rfl
      have s21 := HA.out 21 53 (by decide) f21 rfl
      simp only [List.getD_cons_succ, List.getD_cons_zero] at s21
      have f18 : fs 18 = true := by cases ho; exact HAf.out ⟨18, .chain⟩ (by simp) rfl
      have s18 := HA.out 18 50 (by decide) f18 rfl
      simp only [List.getD_cons_succ, List.getD_cons_zero] at s18
      clear HAf HA HZ f21 f18
      cases ho
      go_simp
      exact HK.out _ HJ.out
    · intro o ho fs W HFi HAf HJ A HA HZ K' HK
      have f22 : fs 22 = true := by cases ho; exact HAf.out ⟨22, .data⟩ (by simp) rfl
      have s22 := HA.out 22 54 (by decide) f22 rfl
      simp only [List.getD_cons_succ, List.getD_cons_zero] at s22
      have f18 : fs 18 = true := by cases ho; exact HAf.out ⟨18, .guard⟩ (by simp) rfl
      have s18 := HA.out 18 50 (by decide) f18 rfl
      simp only [List.getD_cons_succ, List.getD_cons_zero] at s18
      clear HAf HA HZ f22 f18
      cases ho
      go_simp
      exact HK.out _ HJ.out
    · intro o ho fs W HFi HAf HJ A HA HZ K' HK
      have z1 : A.tmps[1]? = some _ := HZ.out 1 (by decide)
      have f23 : fs 23 = true := by cases ho; exact HAf.out ⟨23, .guard⟩ (by simp) rfl
      have s23 := HA.out 23 55 (by decide) f23 rfl
      simp only [List.getD_cons_succ, List.getD_cons_zero] at s23
      clear HAf HA HZ f23
      cases ho
      go_simp
      exact HK.out _ HJ.out
    · intro o ho fs W HFi HAf HJ A HA HZ K' HK
      have f24 : fs 24 = true := by cases ho; exact HAf.out ⟨24, .data⟩ (by simp) rfl
      have s24 := HA.out 24 56 (by decide) f24 rfl
      simp only [List.getD_cons_succ, List.getD_cons_zero] at s24
      have f23 : fs 23 = true := by cases ho; exact HAf.out ⟨23, .guard⟩ (by simp) rfl
      have s23 := HA.out 23 55 (by decide) f23 rfl
      simp only [List.getD_cons_succ, List.getD_cons_zero] at s23
      clear HAf HA HZ f24 f23
      obtain ⟨c0, c1, c2, c3, -⟩ := four_cells HJ.out.1
      cases ho
      go_simp
      exact HK.out _ HJ.out
    · intro o ho fs W HFi HAf HJ A HA HZ K' HK
      have f25 : fs 25 = true := by cases ho; exact HAf.out ⟨25, .data⟩ (by simp) rfl
      have s25 := HA.out 25 57 (by decide) f25 rfl
      simp only [List.getD_cons_succ, List.getD_cons_zero] at s25
      have f23 : fs 23 = true := by cases ho; exact HAf.out ⟨23, .guard⟩ (by simp) rfl
      have s23 := HA.out 23 55 (by decide) f23 rfl
      simp only [List.getD_cons_succ, List.getD_cons_zero] at s23
      clear HAf HA HZ f25 f23
      cases ho
      go_simp
      exact HK.out _ HJ.out
    · intro o ho fs W HFi HAf HJ A HA HZ K' HK
      have f26 : fs 26 = true := by cases ho; exact HAf.out ⟨26, .data⟩ (by simp) rfl
      have s26 := HA.out 26 58 (by decide) f26 rfl
      simp only [List.getD_cons_succ, List.getD_cons_zero] at s26
      have f23 : fs 23 = true := by cases ho; exact HAf.out ⟨23, .guard⟩ (by simp) rfl
      have s23 := HA.out 23 55 (by decide) f23 rfl
      simp only [List.getD_cons_succ, List.getD_cons_zero] at s23
      clear HAf HA HZ f26 f23
      cases ho
      go_simp
      exact HK.out _ HJ.out
    · intro o ho fs W HFi HAf HJ A HA HZ K' HK
      have f23 : fs 23 = true := by cases ho; exact HAf.out ⟨23, .data⟩ (by simp) rfl
      have s23 := HA.out 23 55 (by decide) f23 rfl
      simp only [List.getD_cons_succ, List.getD_cons_zero] at s23
      have f27 : fs 27 = true := by cases ho; exact HAf.out ⟨27, .data⟩ (by simp) rfl
      have s27 := HA.out 27 59 (by decide) f27 rfl
      simp only [List.getD_cons_succ, List.getD_cons_zero] at s27
      have f18 : fs 18 = true := by cases ho; exact HAf.out ⟨18, .guard⟩ (by simp) rfl
      have s18 := HA.out 18 50 (by decide) f18 rfl
      simp only [List.getD_cons_succ, List.getD_cons_zero] at s18
      clear HAf HA HZ f23 f27 f18
      cases ho
      go_simp
      exact HK.out _ HJ.out
    · intro o ho fs W HFi HAf HJ A HA HZ K' HK
      have f18 : fs 18 = true := by cases ho; exact HAf.out ⟨18, .data⟩ (by simp) rfl
      have s18 := HA.out 18 50 (by decide) f18 rfl
      simp only [List.getD_cons_succ, List.getD_cons_zero] at s18
      have f28 : fs 28 = true := by cases ho; exact HAf.out ⟨28, .data⟩ (by simp) rfl
      have s28 := HA.out 28 60 (by decide) f28 rfl
      simp only [List.getD_cons_succ, List.getD_cons_zero] at s28
      clear HAf HA HZ f18 f28
      cases ho
      go_simp
      exact HK.out _ HJ.out
  · intro W hJ
    simp only [canon, Act.put, List.getD_cons_succ, List.getD_cons_zero, List.drop_succ_cons, List.drop_zero, List.setIfInBounds_toArray, List.set_cons_zero, List.set_cons_succ]
    have HW := Lib.hid hJ.2
    clear hJ
    go_wp2_with fail
    go_ret
    exact ⟨rfl, HW.out⟩
set_option maxRecDepth 100000 in
set_option maxHeartbeats 8000000 in
theorem rValid_2cap (k : Int) (tx : List UInt8) (n : Nat) (pos : Int) (w : World) (hk : k = 2) (hn : n = 0) (ht : tx ≠ []) (hl : tx.length ≤ 32) (hw : tx.takeWhile namC = tx) (c : UInt8) (hc : ∀ h, (ba tx)[0]'h = c) (h1 : capC c = true) :
    Calls Tryz.prog 19 #[.agg #[.int .i64 k, .string (ba tx), .int .u64 (n : Int), .int .i64 pos]] w fun e w' => e = .returned (.bool true) ∧ Below w.heap.size w w' := by
  subst hn
  have x3 : (k == 3) = false := by simp; omega
  have x1 : (k == 1) = false := by simp; omega
  have x2 : (k == 2) = true := by simp; omega
  have x4 : (k == 4) = false := by simp; omega
  have x5 : (k == 5) = false := by simp; omega
  have x6 : (k == 6) = false := by simp; omega
  clear hk
  have s1 : ((ba tx).size : Int) = (tx.length : Int) := by rw [ba_size]
  have hks2 : 0 < tx.length := by cases tx with | nil => exact absurd rfl ht | cons c r => simp
  have hks : 0 < (ba tx).size := by rw [ba_size]; exact hks2
  have x0 : (1 : Int) ≤ (tx.length : Int) := by omega
  have xl : (tx.length : Int) ≤ 32 := by omega
  clear ht
  have xq : ((ba (tx.takeWhile namC)).toList == (ba tx).toList) = true := by rw [ba_toList, ba_toList]; simpa using hw
  have hc0 : ((ba tx)[0]'hks).toNat = c.toNat := by rw [hc]
  have HCp := Lib.hid fun W => (show Calls Tryz.prog 46 #[.int .u8 ((((ba tx)[0]'hks).toNat : Nat) : Int)] W fun e w' => e = .returned (.bool true) ∧ w' = W from by rw [hc0, ← h1]; exact capital_r c W)
  clear hc0 hc h1
  clear hw
  have HNm := Lib.hid fun W => name_r tx W (by omega)
  go_enter Tryz.func19, Tryz.ntmps19
  go_upto_region 9 with (fail)
  have HB0 := Lib.hid (show (fun W : World => W.heap[w.heap.size]? = some (.cells #[.int .i64 k, .string (ba tx), .int .u64 ((0 : Nat) : Int), .int .i64 pos] 36 (0, 0)) ∧ Below w.heap.size w W) (w.alloc (.cells #[.int .i64 k, .string (ba tx), .int .u64 ((0 : Nat) : Int), .int .i64 pos] 36 (0, 0))).drew from ⟨heap_alloc_new w _, (below_alloc w _).drew⟩)
  refine' wp_region_fix (by kernel_rfl) 30 [some 32, some 33, some 34, some 35, some 36, some 37, some 38, some 39, some 40, some 41, some 42, some 43, some 44, some 45, some 46, some 47, some 48, some 49, some 50, some 51, some 52, some 53, some 54, some 55, some 56, some 57, some 58, some 59, some 60, some 61] [_, _, _, _, _, _, _, _, _, _, _, _, _, _, _, _, _, _, _, _, _, _, _, _, _, _, _, _, _, _] [] (fun _ W => W.heap[w.heap.size]? = some (.cells #[.int .i64 k, .string (ba tx), .int .u64 ((0 : Nat) : Int), .int .i64 pos] 36 (0, 0)) ∧ Below w.heap.size w W) (by kernel_rfl) (by decide) (by kernel_rfl) (by decide) (by rfl) (by decide) (HB0.out) ?_ ?_
  rotate_left 30
  · refine all_cons 0 ?_ (all_cons 1 ?_ (all_cons 2 ?_ (all_cons 3 ?_ (all_cons 4 ?_ (all_cons 5 ?_ (all_cons 6 ?_ (all_cons 7 ?_ (all_cons 8 ?_ (all_cons 9 ?_ (all_cons 10 ?_ (all_cons 11 ?_ (all_cons 12 ?_ (all_cons 13 ?_ (all_cons 14 ?_ (all_cons 15 ?_ (all_cons 16 ?_ (all_cons 17 ?_ (all_cons 18 ?_ (all_cons 19 ?_ (all_cons 20 ?_ (all_cons 21 ?_ (all_cons 22 ?_ (all_cons 23 ?_ (all_cons 24 ?_ (all_cons 25 ?_ (all_cons 26 ?_ (all_cons 27 ?_ (all_cons 28 ?_ (all_cons 29 ?_ (all_done 30))))))))))))))))))))))))))))))
    · intro o ho fs W HFi HAf HJ A HA HZ K' HK
      have z1 : A.tmps[1]? = some _ := HZ.out 1 (by decide)
      clear HAf HA HZ
      cases ho
      go_simp
      exact HK.out _ HJ.out
    · intro o ho fs W HFi HAf HJ A HA HZ K' HK
      have f0 : fs 0 = true := by cases ho; exact HAf.out ⟨0, .data⟩ (by simp) rfl
      have s0 := HA.out 0 32 (by decide) f0 rfl
      simp only [List.getD_cons_zero] at s0
      clear HAf HA HZ f0
      obtain ⟨c0, c1, c2, c3, -⟩ := four_cells HJ.out.1
      cases ho
      go_simp
      exact HK.out _ HJ.out
    · intro o ho fs W HFi HAf HJ A HA HZ K' HK
      have f1 : fs 1 = true := by cases ho; exact HAf.out ⟨1, .data⟩ (by simp) rfl
      have s1 := HA.out 1 33 (by decide) f1 rfl
      simp only [List.getD_cons_succ, List.getD_cons_zero] at s1
      clear HAf HA HZ f1
      cases ho
      go_simp
      exact HK.out _ HJ.out
    · intro o ho fs W HFi HAf HJ A HA HZ K' HK
      have f2 : fs 2 = true := by cases ho; exact HAf.out ⟨2, .data⟩ (by simp) rfl
      have s2 := HA.out 2 34 (by decide) f2 rfl
      simp only [List.getD_cons_succ, List.getD_cons_zero] at s2
      clear HAf HA HZ f2
      cases ho
      go_simp
      exact HK.out _ HJ.out
    · intro o ho fs W HFi HAf HJ A HA HZ K' HK
      have f3 : fs 3 = true := by cases ho; exact HAf.out ⟨3, .data⟩ (by simp) rfl
      have s3 := HA.out 3 35 (by decide) f3 rfl
      simp only [List.getD_cons_succ, List.getD_cons_zero] at s3
      clear HAf HA HZ f3
      cases ho
      go_simp
      exact HK.out _ HJ.out
    · intro o ho fs W HFi HAf HJ A HA HZ K' HK
      have z1 : A.tmps[1]? = some _ := HZ.out 1 (by decide)
      have f4 : fs 4 = true := by cases ho; exact HAf.out ⟨4, .guard⟩ (by simp) rfl
      have s4 := HA.out 4 36 (by decide) f4 rfl
      simp only [List.getD_cons_succ, List.getD_cons_zero] at s4
      clear HAf HA HZ f4
      cases ho
      go_simp
      exact HK.out _ HJ.out
    · intro o ho fs W HFi HAf HJ A HA HZ K' HK
      have f5 : fs 5 = true := by cases ho; exact HAf.out ⟨5, .data⟩ (by simp) rfl
      have s5 := HA.out 5 37 (by decide) f5 rfl
      simp only [List.getD_cons_succ, List.getD_cons_zero] at s5
      have f4 : fs 4 = true := by cases ho; exact HAf.out ⟨4, .guard⟩ (by simp) rfl
      have s4 := HA.out 4 36 (by decide) f4 rfl
      simp only [List.getD_cons_succ, List.getD_cons_zero] at s4
      clear HAf HA HZ f5 f4
      obtain ⟨c0, c1, c2, c3, -⟩ := four_cells HJ.out.1
      cases ho
      go_simp
      exact HK.out _ HJ.out
    · intro o ho fs W HFi HAf HJ A HA HZ K' HK
      have f6 : fs 6 = true := by cases ho; exact HAf.out ⟨6, .data⟩ (by simp) rfl
      have s6 := HA.out 6 38 (by decide) f6 rfl
      simp only [List.getD_cons_succ, List.getD_cons_zero] at s6
      have f4 : fs 4 = true := by cases ho; exact HAf.out ⟨4, .guard⟩ (by simp) rfl
      have s4 := HA.out 4 36 (by decide) f4 rfl
      simp only [List.getD_cons_succ, List.getD_cons_zero] at s4
      clear HAf HA HZ f6 f4
      cases ho
      go_simp
      exact HK.out _ HJ.out
    · intro o ho fs W HFi HAf HJ A HA HZ K' HK
      have f7 : fs 7 = true := by cases ho; exact HAf.out ⟨7, .data⟩ (by simp) rfl
      have s7 := HA.out 7 39 (by decide) f7 rfl
      simp only [List.getD_cons_succ, List.getD_cons_zero] at s7
      have f4 : fs 4 = true := by cases ho; exact HAf.out ⟨4, .guard⟩ (by simp) rfl
      have s4 := HA.out 4 36 (by decide) f4 rfl
      simp only [List.getD_cons_succ, List.getD_cons_zero] at s4
      clear HAf HA HZ f7 f4
      cases ho
      go_simp
      exact HK.out _ HJ.out
    · intro o ho fs W HFi HAf HJ A HA HZ K' HK
      have f4 : fs 4 = true := by cases ho; exact HAf.out ⟨4, .data⟩ (by simp) rfl
      have s4 := HA.out 4 36 (by decide) f4 rfl
      simp only [List.getD_cons_succ, List.getD_cons_zero] at s4
      have f8 : fs 8 = true := by cases ho; exact HAf.out ⟨8, .data⟩ (by simp) rfl
      have s8 := HA.out 8 40 (by decide) f8 rfl
      simp only [List.getD_cons_succ, List.getD_cons_zero] at s8
      clear HAf HA HZ f4 f8
      cases ho
      go_simp
      exact HK.out _ HJ.out
    · intro o ho fs W HFi HAf HJ A HA HZ K' HK
      have f9 : fs 9 = true := by cases ho; exact HAf.out ⟨9, .data⟩ (by simp) rfl
      have s9 := HA.out 9 41 (by decide) f9 rfl
      simp only [List.getD_cons_succ, List.getD_cons_zero] at s9
      clear HAf HA HZ f9
      cases ho
      go_simp
      exact HK.out _ HJ.out
    · intro o ho fs W HFi HAf HJ A HA HZ K' HK
      have z1 : A.tmps[1]? = some _ := HZ.out 1 (by decide)
      have f10 : fs 10 = true := by cases ho; exact HAf.out ⟨10, .guard⟩ (by simp) rfl
      have s10 := HA.out 10 42 (by decide) f10 rfl
      simp only [List.getD_cons_succ, List.getD_cons_zero] at s10
      clear HAf HA HZ f10
      cases ho
      go_simp
      exact HK.out _ HJ.out
    · intro o ho fs W HFi HAf HJ A HA HZ K' HK
      have f11 : fs 11 = true := by cases ho; exact HAf.out ⟨11, .data⟩ (by simp) rfl
      have s11 := HA.out 11 43 (by decide) f11 rfl
      simp only [List.getD_cons_succ, List.getD_cons_zero] at s11
      have f10 : fs 10 = true := by cases ho; exact HAf.out ⟨10, .guard⟩ (by simp) rfl
      have s10 := HA.out 10 42 (by decide) f10 rfl
      simp only [List.getD_cons_succ, List.getD_cons_zero] at s10
      clear HAf HA HZ f11 f10
      obtain ⟨c0, c1, c2, c3, -⟩ := four_cells HJ.out.1
      cases ho
      go_simp
      exact HK.out _ HJ.out
    · intro o ho fs W HFi HAf HJ A HA HZ K' HK
      have f12 : fs 12 = true := by cases ho; exact HAf.out ⟨12, .data⟩ (by simp) rfl
      have s12 := HA.out 12 44 (by decide) f12 rfl
      simp only [List.getD_cons_succ, List.getD_cons_zero] at s12
      have f10 : fs 10 = true := by cases ho; exact HAf.out ⟨10, .chain⟩ (by simp) rfl
      have s10 := HA.out 10 42 (by decide) f10 rfl
      simp only [List.getD_cons_succ, List.getD_cons_zero] at s10
      clear HAf HA HZ
      cases ho
      go_simp
      refine (HNm.out W).mono ?_
      rintro e w' ⟨rfl, rfl⟩
      exact HK.out _ HJ.out
    · intro o ho fs W HFi HAf HJ A HA HZ K' HK
      have z1 : A.tmps[1]? = some _ := HZ.out 1 (by decide)
      have f10 : fs 10 = true := by cases ho; exact HAf.out ⟨10, .guard⟩ (by simp) rfl
      have s10 := HA.out 10 42 (by decide) f10 rfl
      simp only [List.getD_cons_succ, List.getD_cons_zero] at s10
      clear HAf HA HZ f10
      cases ho
      go_simp
      exact HK.out _ HJ.out
    · intro o ho fs W HFi HAf HJ A HA HZ K' HK
      have f14 : fs 14 = true := by cases ho; exact HAf.out ⟨14, .data⟩ (by simp) rfl
      have s14 := HA.out 14 46 (by decide) f14 rfl
      simp only [List.getD_cons_succ, List.getD_cons_zero] at s14
      have f10 : fs 10 = true := by cases ho; exact HAf.out ⟨10, .guard⟩ (by simp) rfl
      have s10 := HA.out 10 42 (by decide) f10 rfl
      simp only [List.getD_cons_succ, List.getD_cons_zero] at s10
      clear HAf HA HZ f14 f10
      obtain ⟨c0, c1, c2, c3, -⟩ := four_cells HJ.out.1
      cases ho
      go_simp
      exact HK.out _ HJ.out
    · intro o ho fs W HFi HAf HJ A HA HZ K' HK
      have f13 : fs 13 = true := by cases ho; exact HAf.out ⟨13, .data⟩ (by simp) rfl
      have s13 := HA.out 13 45 (by decide) f13 rfl
      simp only [List.getD_cons_succ, List.getD_cons_zero] at s13
      have f15 : fs 15 = true := by cases ho; exact HAf.out ⟨15, .data⟩ (by simp) rfl
      have s15 := HA.out 15 47 (by decide) f15 rfl
      simp only [List.getD_cons_succ, List.getD_cons_zero] at s15
      have f10 : fs 10 = true := by cases ho; exact HAf.out ⟨10, .guard⟩ (by simp) rfl
      have s10 := HA.out 10 42 (by decide) f10 rfl
      simp only [List.getD_cons_succ, List.getD_cons_zero] at s10
      clear HAf HA HZ f13 f15 f10
      cases ho
      go_simp
      exact HK.out _ HJ.out
    · intro o ho fs W HFi HAf HJ A HA HZ K' HK
      have f10 : fs 10 = true := by cases ho; exact HAf.out ⟨10, .data⟩ (by simp) rfl
      have s10 := HA.out 10 42 (by decide) f10 rfl
      simp only [List.getD_cons_succ, List.getD_cons_zero] at s10
      have f16 : fs 16 = true := by cases ho; exact HAf.out ⟨16, .data⟩ (by simp) rfl
      have s16 := HA.out 16 48 (by decide) f16 rfl
      simp only [List.getD_cons_succ, List.getD_cons_zero] at s16
      clear HAf HA HZ f10 f16
      cases ho
      go_simp
      exact HK.out _ HJ.out
    · intro o ho fs W HFi HAf HJ A HA HZ K' HK
      have f17 : fs 17 = true := by cases ho; exact HAf.out ⟨17, .data⟩ (by simp) rfl
      have s17 := HA.out 17 49 (by decide) f17 rfl
      simp only [List.getD_cons_succ, List.getD_cons_zero] at s17
      clear HAf HA HZ f17
      cases ho
      go_simp
      exact HK.out _ HJ.out
    · intro o ho fs W HFi HAf HJ A HA HZ K' HK
      have z1 : A.tmps[1]? = some _ := HZ.out 1 (by decide)
      have f18 : fs 18 = true := by cases ho; exact HAf.out ⟨18, .guard⟩ (by simp) rfl
      have s18 := HA.out 18 50 (by decide) f18 rfl
      simp only [List.getD_cons_succ, List.getD_cons_zero] at s18
      clear HAf HA HZ f18
      cases ho
      go_simp
      exact HK.out _ HJ.out
    · intro o ho fs W HFi HAf HJ A HA HZ K' HK
      have f19 : fs 19 = true := by cases ho; exact HAf.out ⟨19, .data⟩ (by simp) rfl
      have s19 := HA.out 19 51 (by decide) f19 rfl
      simp only [List.getD_cons_succ, List.getD_cons_zero] at s19
      have f18 : fs 18 = true := by cases ho; exact HAf.out ⟨18, .guard⟩ (by simp) rfl
      have s18 := HA.out 18 50 (by decide) f18 rfl
      simp only [List.getD_cons_succ, List.getD_cons_zero] at s18
      clear HAf HA HZ f19 f18
      obtain ⟨c0, c1, c2, c3, -⟩ := four_cells HJ.out.1
      cases ho
      go_simp
      exact HK.out _ HJ.out
    · intro o ho fs W HFi HAf HJ A HA HZ K' HK
      have f20 : fs 20 = true := by cases ho; exact HAf.out ⟨20, .data⟩ (by simp) rfl
      have s20 := HA.out 20 52 (by decide) f20 rfl
      simp only [List.getD_cons_succ, List.getD_cons_zero] at s20
      have f18 : fs 18 = true := by cases ho; exact HAf.out ⟨18, .guard⟩ (by simp) rfl
      have s18 := HA.out 18 50 (by decide) f18 rfl
      simp only [List.getD_cons_succ, List.getD_cons_zero] at s18
      clear HAf HA HZ f20 f18
      cases ho
      go_simp
      exact HK.out _ HJ.out
    · intro o ho fs W HFi HAf HJ A HA HZ K' HK
      have f21 : fs 21 = true := by cases ho; exact HAf.out ⟨21, .data⟩ (by simp) rfl
      have s21 := HA.out 21 53 (by decide) f21 rfl
      simp only [List.getD_cons_succ, List.getD_cons_zero] at s21
      have f18 : fs 18 = true := by cases ho; exact HAf.out ⟨18, .chain⟩ (by simp) rfl
      have s18 := HA.out 18 50 (by decide) f18 rfl
      simp only [List.getD_cons_succ, List.getD_cons_zero] at s18
      clear HAf HA HZ
      cases ho
      go_simp
      refine (HCp.out W).mono ?_
      rintro e w' ⟨rfl, rfl⟩
      exact HK.out _ HJ.out
    · intro o ho fs W HFi HAf HJ A HA HZ K' HK
      have f22 : fs 22 = true := by cases ho; exact HAf.out ⟨22, .data⟩ (by simp) rfl
      have s22 := HA.out 22 54 (by decide) f22 rfl
      simp only [List.getD_cons_succ, List.getD_cons_zero] at s22
      have f18 : fs 18 = true := by cases ho; exact HAf.out ⟨18, .guard⟩ (by simp) rfl
      have s18 := HA.out 18 50 (by decide) f18 rfl
      simp only [List.getD_cons_succ, List.getD_cons_zero] at s18
      clear HAf HA HZ f22 f18
      cases ho
      go_simp
      exact HK.out _ HJ.out
    · intro o ho fs W HFi HAf HJ A HA HZ K' HK
      have z1 : A.tmps[1]? = some _ := HZ.out 1 (by decide)
      have f23 : fs 23 = true := by cases ho; exact HAf.out ⟨23, .guard⟩ (by simp) rfl
      have s23 := HA.out 23 55 (by decide) f23 rfl
      simp only [List.getD_cons_succ, List.getD_cons_zero] at s23
      clear HAf HA HZ f23
      cases ho
      go_simp
      exact HK.out _ HJ.out
    · intro o ho fs W HFi HAf HJ A HA HZ K' HK
      have f24 : fs 24 = true := by cases ho; exact HAf.out ⟨24, .data⟩ (by simp) rfl
      have s24 := HA.out 24 56 (by decide) f24 rfl
      simp only [List.getD_cons_succ, List.getD_cons_zero] at s24
      have f23 : fs 23 = true := by cases ho; exact HAf.out ⟨23, .guard⟩ (by simp) rfl
      have s23 := HA.out 23 55 (by decide) f23 rfl
      simp only [List.getD_cons_succ, List.getD_cons_zero] at s23
      clear HAf HA HZ f24 f23
      obtain ⟨c0, c1, c2, c3, -⟩ := four_cells HJ.out.1
      cases ho
      go_simp
      exact HK.out _ HJ.out
    · intro o ho fs W HFi HAf HJ A HA HZ K' HK
      have f25 : fs 25 = true := by cases ho; exact HAf.out ⟨25, .data⟩ (by simp) rfl
      have s25 := HA.out 25 57 (by decide) f25 rfl
      simp only [List.getD_cons_succ, List.getD_cons_zero] at s25
      have f23 : fs 23 = true := by cases ho; exact HAf.out ⟨23, .guard⟩ (by simp) rfl
      have s23 := HA.out 23 55 (by decide) f23 rfl
      simp only [List.getD_cons_succ, List.getD_cons_zero] at s23
      clear HAf HA HZ f25 f23
      cases ho
      go_simp
      exact HK.out _ HJ.out
    · intro o ho fs W HFi HAf HJ A HA HZ K' HK
      have f26 : fs 26 = true := by cases ho; exact HAf.out ⟨26, .data⟩ (by simp) rfl
      have s26 := HA.out 26 58 (by decide) f26 rfl
      simp only [List.getD_cons_succ, List.getD_cons_zero] at s26
      have f23 : fs 23 = true := by cases ho; exact HAf.out ⟨23, .guard⟩ (by simp) rfl
      have s23 := HA.out 23 55 (by decide) f23 rfl
      simp only [List.getD_cons_succ, List.getD_cons_zero] at s23
      clear HAf HA HZ f26 f23
      cases ho
      go_simp
      exact HK.out _ HJ.out
    · intro o ho fs W HFi HAf HJ A HA HZ K' HK
      have f23 : fs 23 = true := by cases ho; exact HAf.out ⟨23, .data⟩ (by simp) rfl
      have s23 := HA.out 23 55 (by decide) f23 rfl
      simp only [List.getD_cons_succ, List.getD_cons_zero] at s23
      have f27 : fs 27 = true := by cases ho; exact HAf.out ⟨27, .data⟩ (by simp) rfl
      have s27 := HA.out 27 59 (by decide) f27 rfl
      simp only [List.getD_cons_succ, List.getD_cons_zero] at s27
      have f18 : fs 18 = true := by cases ho; exact HAf.out ⟨18, .guard⟩ (by simp) rfl
      have s18 := HA.out 18 50 (by decide) f18 rfl
      simp only [List.getD_cons_succ, List.getD_cons_zero] at s18
      clear HAf HA HZ f23 f27 f18
      cases ho
      go_simp
      exact HK.out _ HJ.out
    · intro o ho fs W HFi HAf HJ A HA HZ K' HK
      have f18 : fs 18 = true := by cases ho; exact HAf.out ⟨18, .data⟩ (by simp) rfl
      have s18 := HA.out 18 50 (by decide) f18 rfl
      simp only [List.getD_cons_succ, List.getD_cons_zero] at s18
      have f28 : fs 28 = true := by cases ho; exact HAf.out ⟨28, .data⟩ (by simp) rfl
      have s28 := HA.out 28 60 (by decide) f28 rfl
      simp only [List.getD_cons_succ, List.getD_cons_zero] at s28
      clear HAf HA HZ f18 f28
      cases ho
      go_simp
      exact HK.out _ HJ.out
  · intro W hJ
    simp only [canon, Act.put, List.getD_cons_succ, List.getD_cons_zero, List.drop_succ_cons, List.drop_zero, List.setIfInBounds_toArray, List.set_cons_zero, List.set_cons_succ]
    have HW := Lib.hid hJ.2
    clear hJ
    go_wp2_with fail
    go_ret
    exact ⟨rfl, HW.out⟩
set_option maxRecDepth 100000 in
set_option maxHeartbeats 8000000 in
theorem rValid_2us (k : Int) (tx : List UInt8) (n : Nat) (pos : Int) (w : World) (hk : k = 2) (hn : n = 0) (ht : tx ≠ []) (hl : tx.length ≤ 32) (hw : tx.takeWhile namC = tx) (c : UInt8) (hc : ∀ h, (ba tx)[0]'h = c) (h1 : capC c = false) (h2 : c.toNat = 95) :
    Calls Tryz.prog 19 #[.agg #[.int .i64 k, .string (ba tx), .int .u64 (n : Int), .int .i64 pos]] w fun e w' => e = .returned (.bool true) ∧ Below w.heap.size w w' := by
  subst hn
  have x3 : (k == 3) = false := by simp; omega
  have x1 : (k == 1) = false := by simp; omega
  have x2 : (k == 2) = true := by simp; omega
  have x4 : (k == 4) = false := by simp; omega
  have x5 : (k == 5) = false := by simp; omega
  have x6 : (k == 6) = false := by simp; omega
  clear hk
  have s1 : ((ba tx).size : Int) = (tx.length : Int) := by rw [ba_size]
  have hks2 : 0 < tx.length := by cases tx with | nil => exact absurd rfl ht | cons c r => simp
  have hks : 0 < (ba tx).size := by rw [ba_size]; exact hks2
  have x0 : (1 : Int) ≤ (tx.length : Int) := by omega
  have xl : (tx.length : Int) ≤ 32 := by omega
  clear ht
  have xq : ((ba (tx.takeWhile namC)).toList == (ba tx).toList) = true := by rw [ba_toList, ba_toList]; simpa using hw
  have hc0 : ((ba tx)[0]'hks).toNat = c.toNat := by rw [hc]
  have HCp := Lib.hid fun W => (show Calls Tryz.prog 46 #[.int .u8 ((((ba tx)[0]'hks).toNat : Nat) : Int)] W fun e w' => e = .returned (.bool false) ∧ w' = W from by rw [hc0, ← h1]; exact capital_r c W)
  have y95 : ((((ba tx)[0]'hks).toNat : Int) == 95) = true := by simp; omega
  clear hc0 hc h1 h2
  clear hw
  have HNm := Lib.hid fun W => name_r tx W (by omega)
  go_enter Tryz.func19, Tryz.ntmps19
  go_upto_region 9 with (fail)
  have HB0 := Lib.hid (show (fun W : World => W.heap[w.heap.size]? = some (.cells #[.int .i64 k, .string (ba tx), .int .u64 ((0 : Nat) : Int), .int .i64 pos] 36 (0, 0)) ∧ Below w.heap.size w W) (w.alloc (.cells #[.int .i64 k, .string (ba tx), .int .u64 ((0 : Nat) : Int), .int .i64 pos] 36 (0, 0))).drew from ⟨heap_alloc_new w _, (below_alloc w _).drew⟩)
  refine' wp_region_fix (by kernel_rfl) 30 [some 32, some 33, some 34, some 35, some 36, some 37, some 38, some 39, some 40, some 41, some 42, some 43, some 44, some 45, some 46, some 47, some 48, some 49, some 50, some 51, some 52, some 53, some 54, some 55, some 56, some 57, some 58, some 59, some 60, some 61] [_, _, _, _, _, _, _, _, _, _, _, _, _, _, _, _, _, _, _, _, _, _, _, _, _, _, _, _, _, _] [] (fun _ W => W.heap[w.heap.size]? = some (.cells #[.int .i64 k, .string (ba tx), .int .u64 ((0 : Nat) : Int), .int .i64 pos] 36 (0, 0)) ∧ Below w.heap.size w W) (by kernel_rfl) (by decide) (by kernel_rfl) (by decide) (by rfl) (by decide) (HB0.out) ?_ ?_
  rotate_left 30
  · refine all_cons 0 ?_ (all_cons 1 ?_ (all_cons 2 ?_ (all_cons 3 ?_ (all_cons 4 ?_ (all_cons 5 ?_ (all_cons 6 ?_ (all_cons 7 ?_ (all_cons 8 ?_ (all_cons 9 ?_ (all_cons 10 ?_ (all_cons 11 ?_ (all_cons 12 ?_ (all_cons 13 ?_ (all_cons 14 ?_ (all_cons 15 ?_ (all_cons 16 ?_ (all_cons 17 ?_ (all_cons 18 ?_ (all_cons 19 ?_ (all_cons 20 ?_ (all_cons 21 ?_ (all_cons 22 ?_ (all_cons 23 ?_ (all_cons 24 ?_ (all_cons 25 ?_ (all_cons 26 ?_ (all_cons 27 ?_ (all_cons 28 ?_ (all_cons 29 ?_ (all_done 30))))))))))))))))))))))))))))))
    · intro o ho fs W HFi HAf HJ A HA HZ K' HK
      have z1 : A.tmps[1]? = some _ := HZ.out 1 (by decide)
      clear HAf HA HZ
      cases ho
      go_simp
      exact HK.out _ HJ.out
    · intro o ho fs W HFi HAf HJ A HA HZ K' HK
      have f0 : fs 0 = true := by cases ho; exact HAf.out ⟨0, .data⟩ (by simp) rfl
      have s0 := HA.out 0 32 (by decide) f0 rfl
      simp only [List.getD_cons_zero] at s0
      clear HAf HA HZ f0
      obtain ⟨c0, c1, c2, c3, -⟩ := four_cells HJ.out.1
      cases ho
      go_simp
      exact HK.out _ HJ.out
    · intro o ho fs W HFi HAf HJ A HA HZ K' HK
      have f1 : fs 1 = true := by cases ho; exact HAf.out ⟨1, .data⟩ (by simp) rfl
      have s1 := HA.out 1 33 (by decide) f1 rfl
      simp only [List.getD_cons_succ, List.getD_cons_zero] at s1
      clear HAf HA HZ f1
      cases ho
      go_simp
      exact HK.out _ HJ.out
    · intro o ho fs W HFi HAf HJ A HA HZ K' HK
      have f2 : fs 2 = true := by cases ho; exact HAf.out ⟨2, .data⟩ (by simp) rfl
      have s2 := HA.out 2 34 (by decide) f2 rfl
      simp only [List.getD_cons_succ, List.getD_cons_zero] at s2
      clear HAf HA HZ f2
      cases ho
      go_simp
      exact HK.out _ HJ.out
    · intro o ho fs W HFi HAf HJ A HA HZ K' HK
      have f3 : fs 3 = true := by cases ho; exact HAf.out ⟨3, .data⟩ (by simp) rfl
      have s3 := HA.out 3 35 (by decide) f3 rfl
      simp only [List.getD_cons_succ, List.getD_cons_zero] at s3
      clear HAf HA HZ f3
      cases ho
      go_simp
      exact HK.out _ HJ.out
    · intro o ho fs W HFi HAf HJ A HA HZ K' HK
      have z1 : A.tmps[1]? = some _ := HZ.out 1 (by decide)
      have f4 : fs 4 = true := by cases ho; exact HAf.out ⟨4, .guard⟩ (by simp) rfl
      have s4 := HA.out 4 36 (by decide) f4 rfl
      simp only [List.getD_cons_succ, List.getD_cons_zero] at s4
      clear HAf HA HZ f4
      cases ho
      go_simp
      exact HK.out _ HJ.out
    · intro o ho fs W HFi HAf HJ A HA HZ K' HK
      have f5 : fs 5 = true := by cases ho; exact HAf.out ⟨5, .data⟩ (by simp) rfl
      have s5 := HA.out 5 37 (by decide) f5 rfl
      simp only [List.getD_cons_succ, List.getD_cons_zero] at s5
      have f4 : fs 4 = true := by cases ho; exact HAf.out ⟨4, .guard⟩ (by simp) rfl
      have s4 := HA.out 4 36 (by decide) f4 rfl
      simp only [List.getD_cons_succ, List.getD_cons_zero] at s4
      clear HAf HA HZ f5 f4
      obtain ⟨c0, c1, c2, c3, -⟩ := four_cells HJ.out.1
      cases ho
      go_simp
      exact HK.out _ HJ.out
    · intro o ho fs W HFi HAf HJ A HA HZ K' HK
      have f6 : fs 6 = true := by cases ho; exact HAf.out ⟨6, .data⟩ (by simp) rfl
      have s6 := HA.out 6 38 (by decide) f6 rfl
      simp only [List.getD_cons_succ, List.getD_cons_zero] at s6
      have f4 : fs 4 = true := by cases ho; exact HAf.out ⟨4, .guard⟩ (by simp) rfl
      have s4 := HA.out 4 36 (by decide) f4 rfl
      simp only [List.getD_cons_succ, List.getD_cons_zero] at s4
      clear HAf HA HZ f6 f4
      cases ho
      go_simp
      exact HK.out _ HJ.out
    · intro o ho fs W HFi HAf HJ A HA HZ K' HK
      have f7 : fs 7 = true := by cases ho; exact HAf.out ⟨7, .data⟩ (by simp) rfl
      have s7 := HA.out 7 39 (by decide) f7 rfl
      simp only [List.getD_cons_succ, List.getD_cons_zero] at s7
      have f4 : fs 4 = true := by cases ho; exact HAf.out ⟨4, .guard⟩ (by simp) rfl
      have s4 := HA.out 4 36 (by decide) f4 rfl
      simp only [List.getD_cons_succ, List.getD_cons_zero] at s4
      clear HAf HA HZ f7 f4
      cases ho
      go_simp
      exact HK.out _ HJ.out
    · intro o ho fs W HFi HAf HJ A HA HZ K' HK
      have f4 : fs 4 = true := by cases ho; exact HAf.out ⟨4, .data⟩ (by simp) rfl
      have s4 := HA.out 4 36 (by decide) f4 rfl
      simp only [List.getD_cons_succ, List.getD_cons_zero] at s4
      have f8 : fs 8 = true := by cases ho; exact HAf.out ⟨8, .data⟩ (by simp) rfl
      have s8 := HA.out 8 40 (by decide) f8 rfl
      simp only [List.getD_cons_succ, List.getD_cons_zero] at s8
      clear HAf HA HZ f4 f8
      cases ho
      go_simp
      exact HK.out _ HJ.out
    · intro o ho fs W HFi HAf HJ A HA HZ K' HK
      have f9 : fs 9 = true := by cases ho; exact HAf.out ⟨9, .data⟩ (by simp) rfl
      have s9 := HA.out 9 41 (by decide) f9 rfl
      simp only [List.getD_cons_succ, List.getD_cons_zero] at s9
      clear HAf HA HZ f9
      cases ho
      go_simp
      exact HK.out _ HJ.out
    · intro o ho fs W HFi HAf HJ A HA HZ K' HK
      have z1 : A.tmps[1]? = some _ := HZ.out 1 (by decide)
      have f10 : fs 10 = true := by cases ho; exact HAf.out ⟨10, .guard⟩ (by simp) rfl
      have s10 := HA.out 10 42 (by decide) f10 rfl
      simp only [List.getD_cons_succ, List.getD_cons_zero] at s10
      clear HAf HA HZ f10
      cases ho
      go_simp
      exact HK.out _ HJ.out
    · intro o ho fs W HFi HAf HJ A HA HZ K' HK
      have f11 : fs 11 = true := by cases ho; exact HAf.out ⟨11, .data⟩ (by simp) rfl
      have s11 := HA.out 11 43 (by decide) f11 rfl
      simp only [List.getD_cons_succ, List.getD_cons_zero] at s11
      have f10 : fs 10 = true := by cases ho; exact HAf.out ⟨10, .guard⟩ (by simp) rfl
      have s10 := HA.out 10 42 (by decide) f10 rfl
      simp only [List.getD_cons_succ, List.getD_cons_zero] at s10
      clear HAf HA HZ f11 f10
      obtain ⟨c0, c1, c2, c3, -⟩ := four_cells HJ.out.1
      cases ho
      go_simp
      exact HK.out _ HJ.out
    · intro o ho fs W HFi HAf HJ A HA HZ K' HK
      have f12 : fs 12 = true := by cases ho; exact HAf.out ⟨12, .data⟩ (by simp) rfl
      have s12 := HA.out 12 44 (by decide) f12 rfl
      simp only [List.getD_cons_succ, List.getD_cons_zero] at s12
      have f10 : fs 10 = true := by cases ho; exact HAf.out ⟨10, .chain⟩ (by simp) rfl
      have s10 := HA.out 10 42 (by decide) f10 rfl
      simp only [List.getD_cons_succ, List.getD_cons_zero] at s10
      clear HAf HA HZ
      cases ho
      go_simp
      refine (HNm.out W).mono ?_
      rintro e w' ⟨rfl, rfl⟩
      exact HK.out _ HJ.out
    · intro o ho fs W HFi HAf HJ A HA HZ K' HK
      have z1 : A.tmps[1]? = some _ := HZ.out 1 (by decide)
      have f10 : fs 10 = true := by cases ho; exact HAf.out ⟨10, .guard⟩ (by simp) rfl
      have s10 := HA.out 10 42 (by decide) f10 rfl
      simp only [List.getD_cons_succ, List.getD_cons_zero] at s10
      clear HAf HA HZ f10
      cases ho
      go_simp
      exact HK.out _ HJ.out
    · intro o ho fs W HFi HAf HJ A HA HZ K' HK
      have f14 : fs 14 = true := by cases ho; exact HAf.out ⟨14, .data⟩ (by simp) rfl
      have s14 := HA.out 14 46 (by decide) f14 rfl
      simp only [List.getD_cons_succ, List.getD_cons_zero] at s14
      have f10 : fs 10 = true := by cases ho; exact HAf.out ⟨10, .guard⟩ (by simp) rfl
      have s10 := HA.out 10 42 (by decide) f10 rfl
      simp only [List.getD_cons_succ, List.getD_cons_zero] at s10
      clear HAf HA HZ f14 f10
      obtain ⟨c0, c1, c2, c3, -⟩ := four_cells HJ.out.1
      cases ho
      go_simp
      exact HK.out _ HJ.out
    · intro o ho fs W HFi HAf HJ A HA HZ K' HK
      have f13 : fs 13 = true := by cases ho; exact HAf.out ⟨13, .data⟩ (by simp) rfl
      have s13 := HA.out 13 45 (by decide) f13 rfl
      simp only [List.getD_cons_succ, List.getD_cons_zero] at s13
      have f15 : fs 15 = true := by cases ho; exact HAf.out ⟨15, .data⟩ (by simp) rfl
      have s15 := HA.out 15 47 (by decide) f15 rfl
      simp only [List.getD_cons_succ, List.getD_cons_zero] at s15
      have f10 : fs 10 = true := by cases ho; exact HAf.out ⟨10, .guard⟩ (by simp) rfl
      have s10 := HA.out 10 42 (by decide) f10 rfl
      simp only [List.getD_cons_succ, List.getD_cons_zero] at s10
      clear HAf HA HZ f13 f15 f10
      cases ho
      go_simp
      exact HK.out _ HJ.out
    · intro o ho fs W HFi HAf HJ A HA HZ K' HK
      have f10 : fs 10 = true := by cases ho; exact HAf.out ⟨10, .data⟩ (by simp) rfl
      have s10 := HA.out 10 42 (by decide) f10 rfl
      simp only [List.getD_cons_succ, List.getD_cons_zero] at s10
      have f16 : fs 16 = true := by cases ho; exact HAf.out ⟨16, .data⟩ (by simp) rfl
      have s16 := HA.out 16 48 (by decide) f16 rfl
      simp only [List.getD_cons_succ, List.getD_cons_zero] at s16
      clear HAf HA HZ f10 f16
      cases ho
      go_simp
      exact HK.out _ HJ.out
    · intro o ho fs W HFi HAf HJ A HA HZ K' HK
      have f17 : fs 17 = true := by cases ho; exact HAf.out ⟨17, .data⟩ (by simp) rfl
      have s17 := HA.out 17 49 (by decide) f17 rfl
      simp only [List.getD_cons_succ, List.getD_cons_zero] at s17
      clear HAf HA HZ f17
      cases ho
      go_simp
      exact HK.out _ HJ.out
    · intro o ho fs W HFi HAf HJ A HA HZ K' HK
      have z1 : A.tmps[1]? = some _ := HZ.out 1 (by decide)
      have f18 : fs 18 = true := by cases ho; exact HAf.out ⟨18, .guard⟩ (by simp) rfl
      have s18 := HA.out 18 50 (by decide) f18 rfl
      simp only [List.getD_cons_succ, List.getD_cons_zero] at s18
      clear HAf HA HZ f18
      cases ho
      go_simp
      exact HK.out _ HJ.out
    · intro o ho fs W HFi HAf HJ A HA HZ K' HK
      have f19 : fs 19 = true := by cases ho; exact HAf.out ⟨19, .data⟩ (by simp) rfl
      have s19 := HA.out 19 51 (by decide) f19 rfl
      simp only [List.getD_cons_succ, List.getD_cons_zero] at s19
      have f18 : fs 18 = true := by cases ho; exact HAf.out ⟨18, .guard⟩ (by simp) rfl
      have s18 := HA.out 18 50 (by decide) f18 rfl
      simp only [List.getD_cons_succ, List.getD_cons_zero] at s18
      clear HAf HA HZ f19 f18
      obtain ⟨c0, c1, c2, c3, -⟩ := four_cells HJ.out.1
      cases ho
      go_simp
      exact HK.out _ HJ.out
    · intro o ho fs W HFi HAf HJ A HA HZ K' HK
      have f20 : fs 20 = true := by cases ho; exact HAf.out ⟨20, .data⟩ (by simp) rfl
      have s20 := HA.out 20 52 (by decide) f20 rfl
      simp only [List.getD_cons_succ, List.getD_cons_zero] at s20
      have f18 : fs 18 = true := by cases ho; exact HAf.out ⟨18, .guard⟩ (by simp) rfl
      have s18 := HA.out 18 50 (by decide) f18 rfl
      simp only [List.getD_cons_succ, List.getD_cons_zero] at s18
      clear HAf HA HZ f20 f18
      cases ho
      go_simp
      exact HK.out _ HJ.out
    · intro o ho fs W HFi HAf HJ A HA HZ K' HK
      have f21 : fs 21 = true := by cases ho; exact HAf.out ⟨21, .data⟩ (by simp) rfl
      have s21 := HA.out 21 53 (by decide) f21 rfl
      simp only [List.getD_cons_succ, List.getD_cons_zero] at s21
      have f18 : fs 18 = true := by cases ho; exact HAf.out ⟨18, .chain⟩ (by simp) rfl
      have s18 := HA.out 18 50 (by decide) f18 rfl
      simp only [List.getD_cons_succ, List.getD_cons_zero] at s18
      clear HAf HA HZ
      cases ho
      go_simp
      refine (HCp.out W).mono ?_
      rintro e w' ⟨rfl, rfl⟩
      exact HK.out _ HJ.out
    · intro o ho fs W HFi HAf HJ A HA HZ K' HK
      have f22 : fs 22 = true := by cases ho; exact HAf.out ⟨22, .data⟩ (by simp) rfl
      have s22 := HA.out 22 54 (by decide) f22 rfl
      simp only [List.getD_cons_succ, List.getD_cons_zero] at s22
      have f18 : fs 18 = true := by cases ho; exact HAf.out ⟨18, .guard⟩ (by simp) rfl
      have s18 := HA.out 18 50 (by decide) f18 rfl
      simp only [List.getD_cons_succ, List.getD_cons_zero] at s18
      clear HAf HA HZ f22 f18
      cases ho
      go_simp
      exact HK.out _ HJ.out
    · intro o ho fs W HFi HAf HJ A HA HZ K' HK
      have z1 : A.tmps[1]? = some _ := HZ.out 1 (by decide)
      have f23 : fs 23 = true := by cases ho; exact HAf.out ⟨23, .guard⟩ (by simp) rfl
      have s23 := HA.out 23 55 (by decide) f23 rfl
      simp only [List.getD_cons_succ, List.getD_cons_zero] at s23
      clear HAf HA HZ f23
      cases ho
      go_simp
      exact HK.out _ HJ.out
    · intro o ho fs W HFi HAf HJ A HA HZ K' HK
      have f24 : fs 24 = true := by cases ho; exact HAf.out ⟨24, .data⟩ (by simp) rfl
      have s24 := HA.out 24 56 (by decide) f24 rfl
      simp only [List.getD_cons_succ, List.getD_cons_zero] at s24
      have f23 : fs 23 = true := by cases ho; exact HAf.out ⟨23, .guard⟩ (by simp) rfl
      have s23 := HA.out 23 55 (by decide) f23 rfl
      simp only [List.getD_cons_succ, List.getD_cons_zero] at s23
      clear HAf HA HZ f24 f23
      obtain ⟨c0, c1, c2, c3, -⟩ := four_cells HJ.out.1
      cases ho
      go_simp
      exact HK.out _ HJ.out
    · intro o ho fs W HFi HAf HJ A HA HZ K' HK
      have f25 : fs 25 = true := by cases ho; exact HAf.out ⟨25, .data⟩ (by simp) rfl
      have s25 := HA.out 25 57 (by decide) f25 rfl
      simp only [List.getD_cons_succ, List.getD_cons_zero] at s25
      have f23 : fs 23 = true := by cases ho; exact HAf.out ⟨23, .guard⟩ (by simp) rfl
      have s23 := HA.out 23 55 (by decide) f23 rfl
      simp only [List.getD_cons_succ, List.getD_cons_zero] at s23
      clear HAf HA HZ f25 f23
      cases ho
      go_simp
      exact HK.out _ HJ.out
    · intro o ho fs W HFi HAf HJ A HA HZ K' HK
      have f26 : fs 26 = true := by cases ho; exact HAf.out ⟨26, .data⟩ (by simp) rfl
      have s26 := HA.out 26 58 (by decide) f26 rfl
      simp only [List.getD_cons_succ, List.getD_cons_zero] at s26
      have f23 : fs 23 = true := by cases ho; exact HAf.out ⟨23, .guard⟩ (by simp) rfl
      have s23 := HA.out 23 55 (by decide) f23 rfl
      simp only [List.getD_cons_succ, List.getD_cons_zero] at s23
      clear HAf HA HZ f26 f23
      cases ho
      go_simp
      exact HK.out _ HJ.out
    · intro o ho fs W HFi HAf HJ A HA HZ K' HK
      have f23 : fs 23 = true := by cases ho; exact HAf.out ⟨23, .data⟩ (by simp) rfl
      have s23 := HA.out 23 55 (by decide) f23 rfl
      simp only [List.getD_cons_succ, List.getD_cons_zero] at s23
      have f27 : fs 27 = true := by cases ho; exact HAf.out ⟨27, .data⟩ (by simp) rfl
      have s27 := HA.out 27 59 (by decide) f27 rfl
      simp only [List.getD_cons_succ, List.getD_cons_zero] at s27
      have f18 : fs 18 = true := by cases ho; exact HAf.out ⟨18, .guard⟩ (by simp) rfl
      have s18 := HA.out 18 50 (by decide) f18 rfl
      simp only [List.getD_cons_succ, List.getD_cons_zero] at s18
      clear HAf HA HZ f23 f27 f18
      cases ho
      go_simp
      exact HK.out _ HJ.out
    · intro o ho fs W HFi HAf HJ A HA HZ K' HK
      have f18 : fs 18 = true := by cases ho; exact HAf.out ⟨18, .data⟩ (by simp) rfl
      have s18 := HA.out 18 50 (by decide) f18 rfl
      simp only [List.getD_cons_succ, List.getD_cons_zero] at s18
      have f28 : fs 28 = true := by cases ho; exact HAf.out ⟨28, .data⟩ (by simp) rfl
      have s28 := HA.out 28 60 (by decide) f28 rfl
      simp only [List.getD_cons_succ, List.getD_cons_zero] at s28
      clear HAf HA HZ f18 f28
      cases ho
      go_simp
      exact HK.out _ HJ.out
  · intro W hJ
    simp only [canon, Act.put, List.getD_cons_succ, List.getD_cons_zero, List.drop_succ_cons, List.drop_zero, List.setIfInBounds_toArray, List.set_cons_zero, List.set_cons_succ]
    have HW := Lib.hid hJ.2
    clear hJ
    go_wp2_with fail
    go_ret
    exact ⟨rfl, HW.out⟩
set_option maxRecDepth 100000 in
set_option maxHeartbeats 8000000 in
theorem rValid_2none (k : Int) (tx : List UInt8) (n : Nat) (pos : Int) (w : World) (hk : k = 2) (hn : n = 0) (ht : tx ≠ []) (hl : tx.length ≤ 32) (hw : tx.takeWhile namC = tx) (c : UInt8) (hc : ∀ h, (ba tx)[0]'h = c) (h1 : capC c = false) (h2 : ¬ c.toNat = 95) :
    Calls Tryz.prog 19 #[.agg #[.int .i64 k, .string (ba tx), .int .u64 (n : Int), .int .i64 pos]] w fun e w' => e = .returned (.bool false) ∧ Below w.heap.size w w' := by
  subst hn
  have x3 : (k == 3) = false := by simp; omega
  have x1 : (k == 1) = false := by simp; omega
  have x2 : (k == 2) = true := by simp; omega
  have x4 : (k == 4) = false := by simp; omega
  have x5 : (k == 5) = false := by simp; omega
  have x6 : (k == 6) = false := by simp; omega
  clear hk
  have s1 : ((ba tx).size : Int) = (tx.length : Int) := by rw [ba_size]
  have hks2 : 0 < tx.length := by cases tx with | nil => exact absurd rfl ht | cons c r => simp
  have hks : 0 < (ba tx).size := by rw [ba_size]; exact hks2
  have x0 : (1 : Int) ≤ (tx.length : Int) := by omega
  have xl : (tx.length : Int) ≤ 32 := by omega
  clear ht
  have xq : ((ba (tx.takeWhile namC)).toList == (ba tx).toList) = true := by rw [ba_toList, ba_toList]; simpa using hw
  have hc0 : ((ba tx)[0]'hks).toNat = c.toNat := by rw [hc]
  have HCp := Lib.hid fun W => (show Calls Tryz.prog 46 #[.int .u8 ((((ba tx)[0]'hks).toNat : Nat) : Int)] W fun e w' => e = .returned (.bool false) ∧ w' = W from by rw [hc0, ← h1]; exact capital_r c W)
  have y95 : ((((ba tx)[0]'hks).toNat : Int) == 95) = false := by simp; omega
  clear hc0 hc h1 h2
  clear hw
  have HNm := Lib.hid fun W => name_r tx W (by omega)
  go_enter Tryz.func19, Tryz.ntmps19
  go_upto_region 9 with (fail)
  have HB0 := Lib.hid (show (fun W : World => W.heap[w.heap.size]? = some (.cells #[.int .i64 k, .string (ba tx), .int .u64 ((0 : Nat) : Int), .int .i64 pos] 36 (0, 0)) ∧ Below w.heap.size w W) (w.alloc (.cells #[.int .i64 k, .string (ba tx), .int .u64 ((0 : Nat) : Int), .int .i64 pos] 36 (0, 0))).drew from ⟨heap_alloc_new w _, (below_alloc w _).drew⟩)
  refine' wp_region_fix (by kernel_rfl) 30 [some 32, some 33, some 34, some 35, some 36, some 37, some 38, some 39, some 40, some 41, some 42, some 43, some 44, some 45, some 46, some 47, some 48, some 49, some 50, some 51, some 52, some 53, some 54, some 55, some 56, some 57, some 58, some 59, some 60, some 61] [_, _, _, _, _, _, _, _, _, _, _, _, _, _, _, _, _, _, _, _, _, _, _, _, _, _, _, _, _, _] [] (fun _ W => W.heap[w.heap.size]? = some (.cells #[.int .i64 k, .string (ba tx), .int .u64 ((0 : Nat) : Int), .int .i64 pos] 36 (0, 0)) ∧ Below w.heap.size w W) (by kernel_rfl) (by decide) (by kernel_rfl) (by decide) (by rfl) (by decide) (HB0.out) ?_ ?_
  rotate_left 30
  · refine all_cons 0 ?_ (all_cons 1 ?_ (all_cons 2 ?_ (all_cons 3 ?_ (all_cons 4 ?_ (all_cons 5 ?_ (all_cons 6 ?_ (all_cons 7 ?_ (all_cons 8 ?_ (all_cons 9 ?_ (all_cons 10 ?_ (all_cons 11 ?_ (all_cons 12 ?_ (all_cons 13 ?_ (all_cons 14 ?_ (all_cons 15 ?_ (all_cons 16 ?_ (all_cons 17 ?_ (all_cons 18 ?_ (all_cons 19 ?_ (all_cons 20 ?_ (all_cons 21 ?_ (all_cons 22 ?_ (all_cons 23 ?_ (all_cons 24 ?_ (all_cons 25 ?_ (all_cons 26 ?_ (all_cons 27 ?_ (all_cons 28 ?_ (all_cons 29 ?_ (all_done 30))))))))))))))))))))))))))))))
    · intro o ho fs W HFi HAf HJ A HA HZ K' HK
      have z1 : A.tmps[1]? = some _ := HZ.out 1 (by decide)
      clear HAf HA HZ
      cases ho
      go_simp
      exact HK.out _ HJ.out
    · intro o ho fs W HFi HAf HJ A HA HZ K' HK
      have f0 : fs 0 = true := by cases ho; exact HAf.out ⟨0, .data⟩ (by simp) rfl
      have s0 := HA.out 0 32 (by decide) f0 rfl
      simp only [List.getD_cons_zero] at s0
      clear HAf HA HZ f0
      obtain ⟨c0, c1, c2, c3, -⟩ := four_cells HJ.out.1
      cases ho
      go_simp
      exact HK.out _ HJ.out
    · intro o ho fs W HFi HAf HJ A HA HZ K' HK
      have f1 : fs 1 = true := by cases ho; exact HAf.out ⟨1, .data⟩ (by simp) rfl
      have s1 := HA.out 1 33 (by decide) f1 rfl
      simp only [List.getD_cons_succ, List.getD_cons_zero] at s1
      clear HAf HA HZ f1
      cases ho
      go_simp
      exact HK.out _ HJ.out
    · intro o ho fs W HFi HAf HJ A HA HZ K' HK
      have f2 : fs 2 = true := by cases ho; exact HAf.out ⟨2, .data⟩ (by simp) rfl
      have s2 := HA.out 2 34 (by decide) f2 rfl
      simp only [List.getD_cons_succ, List.getD_cons_zero] at s2
      clear HAf HA HZ f2
      cases ho
      go_simp
      exact HK.out _ HJ.out
    · intro o ho fs W HFi HAf HJ A HA HZ K' HK
      have f3 : fs 3 = true := by cases ho; exact HAf.out ⟨3, .data⟩ (by simp) rfl
      have s3 := HA.out 3 35 (by decide) f3 rfl
      simp only [List.getD_cons_succ, List.getD_cons_zero] at s3
      clear HAf HA HZ f3
      cases ho
      go_simp
      exact HK.out _ HJ.out
    · intro o ho fs W HFi HAf HJ A HA HZ K' HK
      have z1 : A.tmps[1]? = some _ := HZ.out 1 (by decide)
      have f4 : fs 4 = true := by cases ho; exact HAf.out ⟨4, .guard⟩ (by simp) rfl
      have s4 := HA.out 4 36 (by decide) f4 rfl
      simp only [List.getD_cons_succ, List.getD_cons_zero] at s4
      clear HAf HA HZ f4
      cases ho
      go_simp
      exact HK.out _ HJ.out
    · intro o ho fs W HFi HAf HJ A HA HZ K' HK
      have f5 : fs 5 = true := by cases ho; exact HAf.out ⟨5, .data⟩ (by simp) rfl
      have s5 := HA.out 5 37 (by decide) f5 rfl
      simp only [List.getD_cons_succ, List.getD_cons_zero] at s5
      have f4 : fs 4 = true := by cases ho; exact HAf.out ⟨4, .guard⟩ (by simp) rfl
      have s4 := HA.out 4 36 (by decide) f4 rfl
      simp only [List.getD_cons_succ, List.getD_cons_zero] at s4
      clear HAf HA HZ f5 f4
      obtain ⟨c0, c1, c2, c3, -⟩ := four_cells HJ.out.1
      cases ho
      go_simp
      exact HK.out _ HJ.out
    · intro o ho fs W HFi HAf HJ A HA HZ K' HK
      have f6 : fs 6 = true := by cases ho; exact HAf.out ⟨6, .data⟩ (by simp) rfl
      have s6 := HA.out 6 38 (by decide) f6 rfl
      simp only [List.getD_cons_succ, List.getD_cons_zero] at s6
      have f4 : fs 4 = true := by cases ho; exact HAf.out ⟨4, .guard⟩ (by simp) rfl
      have s4 := HA.out 4 36 (by decide) f4 rfl
      simp only [List.getD_cons_succ, List.getD_cons_zero] at s4
      clear HAf HA HZ f6 f4
      cases ho
      go_simp
      exact HK.out _ HJ.out
    · intro o ho fs W HFi HAf HJ A HA HZ K' HK
      have f7 : fs 7 = true := by cases ho; exact HAf.out ⟨7, .data⟩ (by simp) rfl
      have s7 := HA.out 7 39 (by decide) f7 rfl
      simp only [List.getD_cons_succ, List.getD_cons_zero] at s7
      have f4 : fs 4 = true := by cases ho; exact HAf.out ⟨4, .guard⟩ (by simp) rfl
      have s4 := HA.out 4 36 (by decide) f4 rfl
      simp only [List.getD_cons_succ, List.getD_cons_zero] at s4
      clear HAf HA HZ f7 f4
      cases ho
      go_simp
      exact HK.out _ HJ.out
    · intro o ho fs W HFi HAf HJ A HA HZ K' HK
      have f4 : fs 4 = true := by cases ho; exact HAf.out ⟨4, .data⟩ (by simp) rfl
      have s4 := HA.out 4 36 (by decide) f4 rfl
      simp only [List.getD_cons_succ, List.getD_cons_zero] at s4
      have f8 : fs 8 = true := by cases ho; exact HAf.out ⟨8, .data⟩ (by simp) rfl
      have s8 := HA.out 8 40 (by decide) f8 rfl
      simp only [List.getD_cons_succ, List.getD_cons_zero] at s8
      clear HAf HA HZ f4 f8
      cases ho
      go_simp
      exact HK.out _ HJ.out
    · intro o ho fs W HFi HAf HJ A HA HZ K' HK
      have f9 : fs 9 = true := by cases ho; exact HAf.out ⟨9, .data⟩ (by simp) rfl
      have s9 := HA.out 9 41 (by decide) f9 rfl
      simp only [List.getD_cons_succ, List.getD_cons_zero] at s9
      clear HAf HA HZ f9
      cases ho
      go_simp
      exact HK.out _ HJ.out
    · intro o ho fs W HFi HAf HJ A HA HZ K' HK
      have z1 : A.tmps[1]? = some _ := HZ.out 1 (by decide)
      have f10 : fs 10 = true := by cases ho; exact HAf.out ⟨10, .guard⟩ (by simp) rfl
      have s10 := HA.out 10 42 (by decide) f10 rfl
      simp only [List.getD_cons_succ, List.getD_cons_zero] at s10
      clear HAf HA HZ f10
      cases ho
      go_simp
      exact HK.out _ HJ.out
    · intro o ho fs W HFi HAf HJ A HA HZ K' HK
      have f11 : fs 11 = true := by cases ho; exact HAf.out ⟨11, .data⟩ (by simp) rfl
      have s11 := HA.out 11 43 (by decide) f11 rfl
      simp only [List.getD_cons_succ, List.getD_cons_zero] at s11
      have f10 : fs 10 = true := by cases ho; exact HAf.out ⟨10, .guard⟩ (by simp) rfl
      have s10 := HA.out 10 42 (by decide) f10 rfl
      simp only [List.getD_cons_succ, List.getD_cons_zero] at s10
      clear HAf HA HZ f11 f10
      obtain ⟨c0, c1, c2, c3, -⟩ := four_cells HJ.out.1
      cases ho
      go_simp
      exact HK.out _ HJ.out
    · intro o ho fs W HFi HAf HJ A HA HZ K' HK
      have f12 : fs 12 = true := by cases ho; exact HAf.out ⟨12, .data⟩ (by simp) rfl
      have s12 := HA.out 12 44 (by decide) f12 rfl
      simp only [List.getD_cons_succ, List.getD_cons_zero] at s12
      have f10 : fs 10 = true := by cases ho; exact HAf.out ⟨10, .chain⟩ (by simp) rfl
      have s10 := HA.out 10 42 (by decide) f10 rfl
      simp only [List.getD_cons_succ, List.getD_cons_zero] at s10
      clear HAf HA HZ
      cases ho
      go_simp
      refine (HNm.out W).mono ?_
      rintro e w' ⟨rfl, rfl⟩
      exact HK.out _ HJ.out
    · intro o ho fs W HFi HAf HJ A HA HZ K' HK
      have z1 : A.tmps[1]? = some _ := HZ.out 1 (by decide)
      have f10 : fs 10 = true := by cases ho; exact HAf.out ⟨10, .guard⟩ (by simp) rfl
      have s10 := HA.out 10 42 (by decide) f10 rfl
      simp only [List.getD_cons_succ, List.getD_cons_zero] at s10
      clear HAf HA HZ f10
      cases ho
      go_simp
      exact HK.out _ HJ.out
    · intro o ho fs W HFi HAf HJ A HA HZ K' HK
      have f14 : fs 14 = true := by cases ho; exact HAf.out ⟨14, .data⟩ (by simp) rfl
      have s14 := HA.out 14 46 (by decide) f14 rfl
      simp only [List.getD_cons_succ, List.getD_cons_zero] at s14
      have f10 : fs 10 = true := by cases ho; exact HAf.out ⟨10, .guard⟩ (by simp) rfl
      have s10 := HA.out 10 42 (by decide) f10 rfl
      simp only [List.getD_cons_succ, List.getD_cons_zero] at s10
      clear HAf HA HZ f14 f10
      obtain ⟨c0, c1, c2, c3, -⟩ := four_cells HJ.out.1
      cases ho
      go_simp
      exact HK.out _ HJ.out
    · intro o ho fs W HFi HAf HJ A HA HZ K' HK
      have f13 : fs 13 = true := by cases ho; exact HAf.out ⟨13, .data⟩ (by simp) rfl
      have s13 := HA.out 13 45 (by decide) f13 rfl
      simp only [List.getD_cons_succ, List.getD_cons_zero] at s13
      have f15 : fs 15 = true := by cases ho; exact HAf.out ⟨15, .data⟩ (by simp) rfl
      have s15 := HA.out 15 47 (by decide) f15 rfl
      simp only [List.getD_cons_succ, List.getD_cons_zero] at s15
      have f10 : fs 10 = true := by cases ho; exact HAf.out ⟨10, .guard⟩ (by simp) rfl
      have s10 := HA.out 10 42 (by decide) f10 rfl
      simp only [List.getD_cons_succ, List.getD_cons_zero] at s10
      clear HAf HA HZ f13 f15 f10
      cases ho
      go_simp
      exact HK.out _ HJ.out
    · intro o ho fs W HFi HAf HJ A HA HZ K' HK
      have f10 : fs 10 = true := by cases ho; exact HAf.out ⟨10, .data⟩ (by simp) rfl
      have s10 := HA.out 10 42 (by decide) f10 rfl
      simp only [List.getD_cons_succ, List.getD_cons_zero] at s10
      have f16 : fs 16 = true := by cases ho; exact HAf.out ⟨16, .data⟩ (by simp) rfl
      have s16 := HA.out 16 48 (by decide) f16 rfl
      simp only [List.getD_cons_succ, List.getD_cons_zero] at s16
      clear HAf HA HZ f10 f16
      cases ho
      go_simp
      exact HK.out _ HJ.out
    · intro o ho fs W HFi HAf HJ A HA HZ K' HK
      have f17 : fs 17 = true := by cases ho; exact HAf.out ⟨17, .data⟩ (by simp) rfl
      have s17 := HA.out 17 49 (by decide) f17 rfl
      simp only [List.getD_cons_succ, List.getD_cons_zero] at s17
      clear HAf HA HZ f17
      cases ho
      go_simp
      exact HK.out _ HJ.out
    · intro o ho fs W HFi HAf HJ A HA HZ K' HK
      have z1 : A.tmps[1]? = some _ := HZ.out 1 (by decide)
      have f18 : fs 18 = true := by cases ho; exact HAf.out ⟨18, .guard⟩ (by simp) rfl
      have s18 := HA.out 18 50 (by decide) f18 rfl
      simp only [List.getD_cons_succ, List.getD_cons_zero] at s18
      clear HAf HA HZ f18
      cases ho
      go_simp
      exact HK.out _ HJ.out
    · intro o ho fs W HFi HAf HJ A HA HZ K' HK
      have f19 : fs 19 = true := by cases ho; exact HAf.out ⟨19, .data⟩ (by simp) rfl
      have s19 := HA.out 19 51 (by decide) f19 rfl
      simp only [List.getD_cons_succ, List.getD_cons_zero] at s19
      have f18 : fs 18 = true := by cases ho; exact HAf.out ⟨18, .guard⟩ (by simp) rfl
      have s18 := HA.out 18 50 (by decide) f18 rfl
      simp only [List.getD_cons_succ, List.getD_cons_zero] at s18
      clear HAf HA HZ f19 f18
      obtain ⟨c0, c1, c2, c3, -⟩ := four_cells HJ.out.1
      cases ho
      go_simp
      exact HK.out _ HJ.out
    · intro o ho fs W HFi HAf HJ A HA HZ K' HK
      have f20 : fs 20 = true := by cases ho; exact HAf.out ⟨20, .data⟩ (by simp) rfl
      have s20 := HA.out 20 52 (by decide) f20 rfl
      simp only [List.getD_cons_succ, List.getD_cons_zero] at s20
      have f18 : fs 18 = true := by cases ho; exact HAf.out ⟨18, .guard⟩ (by simp) rfl
      have s18 := HA.out 18 50 (by decide) f18 rfl
      simp only [List.getD_cons_succ, List.getD_cons_zero] at s18
      clear HAf HA HZ f20 f18
      cases ho
      go_simp
      exact HK.out _ HJ.out
    · intro o ho fs W HFi HAf HJ A HA HZ K' HK
      have f21 : fs 21 = true := by cases ho; exact HAf.out ⟨21, .data⟩ (by simp) rfl
      have s21 := HA.out 21 53 (by decide) f21 rfl
      simp only [List.getD_cons_succ, List.getD_cons_zero] at s21
      have f18 : fs 18 = true := by cases ho; exact HAf.out ⟨18, .chain⟩ (by simp) rfl
      have s18 := HA.out 18 50 (by decide) f18 rfl
      simp only [List.getD_cons_succ, List.getD_cons_zero] at s18
      clear HAf HA HZ
      cases ho
      go_simp
      refine (HCp.out W).mono ?_
      rintro e w' ⟨rfl, rfl⟩
      exact HK.out _ HJ.out
    · intro o ho fs W HFi HAf HJ A HA HZ K' HK
      have f22 : fs 22 = true := by cases ho; exact HAf.out ⟨22, .data⟩ (by simp) rfl
      have s22 := HA.out 22 54 (by decide) f22 rfl
      simp only [List.getD_cons_succ, List.getD_cons_zero] at s22
      have f18 : fs 18 = true := by cases ho; exact HAf.out ⟨18, .guard⟩ (by simp) rfl
      have s18 := HA.out 18 50 (by decide) f18 rfl
      simp only [List.getD_cons_succ, List.getD_cons_zero] at s18
      clear HAf HA HZ f22 f18
      cases ho
      go_simp
      exact HK.out _ HJ.out
    · intro o ho fs W HFi HAf HJ A HA HZ K' HK
      have z1 : A.tmps[1]? = some _ := HZ.out 1 (by decide)
      have f23 : fs 23 = true := by cases ho; exact HAf.out ⟨23, .guard⟩ (by simp) rfl
      have s23 := HA.out 23 55 (by decide) f23 rfl
      simp only [List.getD_cons_succ, List.getD_cons_zero] at s23
      clear HAf HA HZ f23
      cases ho
      go_simp
      exact HK.out _ HJ.out
    · intro o ho fs W HFi HAf HJ A HA HZ K' HK
      have f24 : fs 24 = true := by cases ho; exact HAf.out ⟨24, .data⟩ (by simp) rfl
      have s24 := HA.out 24 56 (by decide) f24 rfl
      simp only [List.getD_cons_succ, List.getD_cons_zero] at s24
      have f23 : fs 23 = true := by cases ho; exact HAf.out ⟨23, .guard⟩ (by simp) rfl
      have s23 := HA.out 23 55 (by decide) f23 rfl
      simp only [List.getD_cons_succ, List.getD_cons_zero] at s23
      clear HAf HA HZ f24 f23
      obtain ⟨c0, c1, c2, c3, -⟩ := four_cells HJ.out.1
      cases ho
      go_simp
      exact HK.out _ HJ.out
    · intro o ho fs W HFi HAf HJ A HA HZ K' HK
      have f25 : fs 25 = true := by cases ho; exact HAf.out ⟨25, .data⟩ (by simp) rfl
      have s25 := HA.out 25 57 (by decide) f25 rfl
      simp only [List.getD_cons_succ, List.getD_cons_zero] at s25
      have f23 : fs 23 = true := by cases ho; exact HAf.out ⟨23, .guard⟩ (by simp) rfl
      have s23 := HA.out 23 55 (by decide) f23 rfl
      simp only [List.getD_cons_succ, List.getD_cons_zero] at s23
      clear HAf HA HZ f25 f23
      cases ho
      go_simp
      exact HK.out _ HJ.out
    · intro o ho fs W HFi HAf HJ A HA HZ K' HK
      have f26 : fs 26 = true := by cases ho; exact HAf.out ⟨26, .data⟩ (by simp) rfl
      have s26 := HA.out 26 58 (by decide) f26 rfl
      simp only [List.getD_cons_succ, List.getD_cons_zero] at s26
      have f23 : fs 23 = true := by cases ho; exact HAf.out ⟨23, .guard⟩ (by simp) rfl
      have s23 := HA.out 23 55 (by decide) f23 rfl
      simp only [List.getD_cons_succ, List.getD_cons_zero] at s23
      clear HAf HA HZ f26 f23
      cases ho
      go_simp
      exact HK.out _ HJ.out
    · intro o ho fs W HFi HAf HJ A HA HZ K' HK
      have f23 : fs 23 = true := by cases ho; exact HAf.out ⟨23, .data⟩ (by simp) rfl
      have s23 := HA.out 23 55 (by decide) f23 rfl
      simp only [List.getD_cons_succ, List.getD_cons_zero] at s23
      have f27 : fs 27 = true := by cases ho; exact HAf.out ⟨27, .data⟩ (by simp) rfl
      have s27 := HA.out 27 59 (by decide) f27 rfl
      simp only [List.getD_cons_succ, List.getD_cons_zero] at s27
      have f18 : fs 18 = true := by cases ho; exact HAf.out ⟨18, .guard⟩ (by simp) rfl
      have s18 := HA.out 18 50 (by decide) f18 rfl
      simp only [List.getD_cons_succ, List.getD_cons_zero] at s18
      clear HAf HA HZ f23 f27 f18
      cases ho
      go_simp
      exact HK.out _ HJ.out
    · intro o ho fs W HFi HAf HJ A HA HZ K' HK
      have f18 : fs 18 = true := by cases ho; exact HAf.out ⟨18, .data⟩ (by simp) rfl
      have s18 := HA.out 18 50 (by decide) f18 rfl
      simp only [List.getD_cons_succ, List.getD_cons_zero] at s18
      have f28 : fs 28 = true := by cases ho; exact HAf.out ⟨28, .data⟩ (by simp) rfl
      have s28 := HA.out 28 60 (by decide) f28 rfl
      simp only [List.getD_cons_succ, List.getD_cons_zero] at s28
      clear HAf HA HZ f18 f28
      cases ho
      go_simp
      exact HK.out _ HJ.out
  · intro W hJ
    simp only [canon, Act.put, List.getD_cons_succ, List.getD_cons_zero, List.drop_succ_cons, List.drop_zero, List.setIfInBounds_toArray, List.set_cons_zero, List.set_cons_succ]
    have HW := Lib.hid hJ.2
    clear hJ
    go_wp2_with fail
    go_ret
    exact ⟨rfl, HW.out⟩
theorem Valid_r (t : Tok) (w : World) (hl : t.tx.length ≤ 1000000) :
    Calls Tryz.prog 19 #[.agg #[.int .i64 t.k, .string (ba t.tx), .int .u64 (t.n : Int), .int .i64 t.pos]] w fun e w' => e = .returned (.bool (validTk t)) ∧ Below w.heap.size w w' := by
  obtain ⟨k, tx, n, pos⟩ := t
  have hv : validTk ⟨k, tx, n, pos⟩ = if k = 3 then tx.isEmpty && decide (n ≤ 9223372036854775808) else if n ≠ 0 then false else if k = 1 then nameB ⟨tx.toArray⟩ && !resB tx else if k = 2 then varB tx else if k = 4 then plainB tx else if k = 5 then resB tx else if k = 6 then signB tx else false := rfl
  rw [hv]
  clear hv
  by_cases h3 : k = 3
  · rw [if_pos h3]
    by_cases ht : tx = []
    · by_cases hn : n ≤ 9223372036854775808
      · have := rValid_3b k tx n pos w h3 ht hn
        rw [show (tx.isEmpty && decide (n ≤ 9223372036854775808)) = true by rw [ht, decide_eq_true hn]; rfl]
        exact this
      · have := rValid_3c k tx n pos w h3 ht hn
        rw [show (tx.isEmpty && decide (n ≤ 9223372036854775808)) = false by rw [decide_eq_false hn, Bool.and_false]]
        exact this
    · have := rValid_3a k tx n pos w h3 ht
      rw [show (tx.isEmpty && decide (n ≤ 9223372036854775808)) = false by cases tx with | nil => exact absurd rfl ht | cons c r => rfl]
      exact this
  rw [if_neg h3]
  by_cases hn : n = 0
  rotate_left
  · rw [if_pos hn]
    exact rValid_nz k tx n pos w h3 hn
  rw [if_neg (by rw [hn]; exact fun h => h rfl)]
  by_cases h1 : k = 1
  · rw [if_pos h1]
    cases hB : nameB ⟨tx.toArray⟩ with
    | true => rw [Bool.true_and]; exact rValid_1a k tx n pos w h1 hn hB hl
    | false => rw [Bool.false_and]; exact rValid_1b k tx n pos w h1 hn hB hl
  rw [if_neg h1]
  by_cases h2 : k = 2
  · rw [if_pos h2]
    by_cases ht : tx = []
    · have := rValid_2emp k tx n pos w h2 hn ht
      rw [show varB tx = false by rw [ht]; rfl]
      exact this
    by_cases hw : tx.length ≤ 32
    rotate_left
    · have := rValid_2long k tx n pos w h2 hn ht hw
      rw [show varB tx = false by unfold varB; rw [decide_eq_false hw, Bool.and_false, Bool.false_and, Bool.false_and]]
      exact this
    by_cases hq : tx.takeWhile namC = tx
    rotate_left
    · have := rValid_2not k tx n pos w h2 hn ht hw hq
      rw [show varB tx = false by
        unfold varB
        rw [show tx.all namC = false from (Bool.not_eq_true _).mp fun h => hq (all_twr.2 h), Bool.and_false, Bool.false_and]]
      exact this
    obtain ⟨c, r, rfl⟩ : ∃ c r, tx = c :: r := by cases tx with | nil => exact absurd rfl ht | cons c r => exact ⟨c, r, rfl⟩
    have hv : varB (c :: r) = (capC c || decide (c.toNat = 95)) := by
      unfold varB
      rw [all_twr.1 hq, decide_eq_true hw]
      simp
    rw [hv]
    cases hc : capC c with
    | true => exact rValid_2cap k _ n pos w h2 hn ht hw hq c (fun _ => rfl) hc
    | false =>
      by_cases h95 : c.toNat = 95
      · rw [decide_eq_true h95]; exact rValid_2us k _ n pos w h2 hn ht hw hq c (fun _ => rfl) hc h95
      · rw [decide_eq_false h95]; exact rValid_2none k _ n pos w h2 hn ht hw hq c (fun _ => rfl) hc h95
  rw [if_neg h2]
  by_cases h4 : k = 4
  · rw [if_pos h4]; exact rValid_4 k tx n pos w h4 hn hl
  rw [if_neg h4]
  by_cases h5 : k = 5
  · rw [if_pos h5]; exact rValid_5 k tx n pos w h5 hn
  rw [if_neg h5]
  by_cases h6 : k = 6
  · rw [if_pos h6]; exact rValid_6 k tx n pos w h6 hn
  rw [if_neg h6]
  exact rValid_other k tx n pos w (by omega) hn
end Go.Proofs.YtmcnhggpmlhgeaaGreatDoor
