/-
  Walks: Valid of lex: a variable.
-/
import Derived.Test.YtmcnhggpmlhgeaaGreatDoorLxS
namespace Go.Proofs.YtmcnhggpmlhgeaaGreatDoor
open Go.RowKit Go.Proofs.BitsM
set_option maxRecDepth 100000 in
set_option maxHeartbeats 8000000 in
theorem Valid_2emp (k : Int) (tx : List UInt8) (n : Nat) (pos : Int) (w : World) (hk : k = 2) (hn : n = 0) (ht : tx = []) :
    Calls Tryz.prog 18 #[.agg #[.int .i64 k, .string (ba tx), .int .u64 (n : Int), .int .i64 pos]] w fun e w' => e = .returned (.bool false) ∧ Below w.heap.size w w' := by
  subst hn
  have x3 : (k == 3) = false := by simp; omega
  have x1 : (k == 1) = false := by simp; omega
  have x2 : (k == 2) = true := by simp; omega
  have x4 : (k == 4) = false := by simp; omega
  have x5 : (k == 5) = false := by simp; omega
  have x6 : (k == 6) = false := by simp; omega
  clear hk
  have xe : (ba tx).toList.isEmpty = true := by rw [ba_toList, ht]; rfl
  clear ht
  go_enter Tryz.func18, Tryz.ntmps18
  go_upto_region 10 with (fail)
  have HB0 := Lib.hid (show Bq ((w.alloc (.cells #[.int .i64 k, .string (ba tx), .int .u64 ((0 : Nat) : Int), .int .i64 pos] 36 (0, 0))).alloc (.cells #[.string (ba tx), .int .i64 0, .map none] 43 (0, 0))).drew [.blk (w.heap.size + 1) #[.string (ba tx), .int .i64 (((0 : Nat) : Int)), .map none] 43, .blk w.heap.size #[.int .i64 k, .string (ba tx), .int .u64 ((0 : Nat) : Int), .int .i64 pos] 36, .base (fun _ => False) w] from (Bq.box (Bq.box (show Bq w [.base (fun _ => False) w] from ⟨Ch.refl _ _, trivial⟩) _ _ rfl) _ _ (World.size_alloc _ _)).dr)
  refine' wp_region_fix (by kernel_rfl) 33 [some 36, some 37, some 38, some 39, some 40, some 41, some 42, some 43, some 44, some 45, some 46, some 47, some 48, some 49, some 50, some 51, some 52, some 53, some 54, some 55, some 56, some 57, some 58, some 59, some 60, some 61, some 62, some 63, some 64, some 65, some 66, some 67, some 68] [_, _, _, _, _, _, _, _, _, _, _, _, _, _, _, _, _, _, _, _, _, _, _, _, _, _, _, _, _, _, _, _, _] [] (fun _ W => ∃ P : Nat, Hid (Bq W [.blk (w.heap.size + 1) #[.string (ba tx), .int .i64 ((P : Int)), .map none] 43, .blk w.heap.size #[.int .i64 k, .string (ba tx), .int .u64 ((0 : Nat) : Int), .int .i64 pos] 36, .base (fun _ => False) w]) ∧ P = 0) (by kernel_rfl) (by decide) (by kernel_rfl) (by decide) (by rfl) (by decide) (⟨0, HB0, rfl⟩) ?_ ?_
  rotate_left 33
  · refine all_cons 0 ?_ (all_cons 1 ?_ (all_cons 2 ?_ (all_cons 3 ?_ (all_cons 4 ?_ (all_cons 5 ?_ (all_cons 6 ?_ (all_cons 7 ?_ (all_cons 8 ?_ (all_cons 9 ?_ (all_cons 10 ?_ (all_cons 11 ?_ (all_cons 12 ?_ (all_cons 13 ?_ (all_cons 14 ?_ (all_cons 15 ?_ (all_cons 16 ?_ (all_cons 17 ?_ (all_cons 18 ?_ (all_cons 19 ?_ (all_cons 20 ?_ (all_cons 21 ?_ (all_cons 22 ?_ (all_cons 23 ?_ (all_cons 24 ?_ (all_cons 25 ?_ (all_cons 26 ?_ (all_cons 27 ?_ (all_cons 28 ?_ (all_cons 29 ?_ (all_cons 30 ?_ (all_cons 31 ?_ (all_cons 32 ?_ (all_done 33)))))))))))))))))))))))))))))))))
    · intro o ho fs W HFi HAf HJ A HA HZ K' HK
      have z1 : A.tmps[1]? = some _ := HZ.out 1 (by decide)
      clear HAf HA HZ
      cases ho
      go_simp
      exact HK.out _ HJ.out
    · intro o ho fs W HFi HAf HJ A HA HZ K' HK
      have f0 : fs 0 = true := by cases ho; exact HAf.out ⟨0, .data⟩ (by simp) rfl
      have s0 := HA.out 0 36 (by decide) f0 rfl
      simp only [List.getD_cons_zero] at s0
      clear HAf HA HZ f0
      obtain ⟨P, HP, hP0⟩ := HJ.out
      obtain ⟨c0, c1, c2, c3, -⟩ := four_cells (HP.out.blk 1 rfl)
      cases ho
      go_simp
      exact HK.out _ HJ.out
    · intro o ho fs W HFi HAf HJ A HA HZ K' HK
      have f1 : fs 1 = true := by cases ho; exact HAf.out ⟨1, .data⟩ (by simp) rfl
      have s1 := HA.out 1 37 (by decide) f1 rfl
      simp only [List.getD_cons_succ, List.getD_cons_zero] at s1
      clear HAf HA HZ f1
      cases ho
      go_simp
      exact HK.out _ HJ.out
    · intro o ho fs W HFi HAf HJ A HA HZ K' HK
      have f2 : fs 2 = true := by cases ho; exact HAf.out ⟨2, .data⟩ (by simp) rfl
      have s2 := HA.out 2 38 (by decide) f2 rfl
      simp only [List.getD_cons_succ, List.getD_cons_zero] at s2
      clear HAf HA HZ f2
      cases ho
      go_simp
      exact HK.out _ HJ.out
    · intro o ho fs W HFi HAf HJ A HA HZ K' HK
      have z1 : A.tmps[1]? = some _ := HZ.out 1 (by decide)
      have f3 : fs 3 = true := by cases ho; exact HAf.out ⟨3, .guard⟩ (by simp) rfl
      have s3 := HA.out 3 39 (by decide) f3 rfl
      simp only [List.getD_cons_succ, List.getD_cons_zero] at s3
      clear HAf HA HZ f3
      cases ho
      go_simp
      exact HK.out _ HJ.out
    · intro o ho fs W HFi HAf HJ A HA HZ K' HK
      have f4 : fs 4 = true := by cases ho; exact HAf.out ⟨4, .data⟩ (by simp) rfl
      have s4 := HA.out 4 40 (by decide) f4 rfl
      simp only [List.getD_cons_succ, List.getD_cons_zero] at s4
      have f3 : fs 3 = true := by cases ho; exact HAf.out ⟨3, .guard⟩ (by simp) rfl
      have s3 := HA.out 3 39 (by decide) f3 rfl
      simp only [List.getD_cons_succ, List.getD_cons_zero] at s3
      clear HAf HA HZ f4 f3
      obtain ⟨P, HP, hP0⟩ := HJ.out
      obtain ⟨c0, c1, c2, c3, -⟩ := four_cells (HP.out.blk 1 rfl)
      cases ho
      go_simp
      exact HK.out _ HJ.out
    · intro o ho fs W HFi HAf HJ A HA HZ K' HK
      have f5 : fs 5 = true := by cases ho; exact HAf.out ⟨5, .data⟩ (by simp) rfl
      have s5 := HA.out 5 41 (by decide) f5 rfl
      simp only [List.getD_cons_succ, List.getD_cons_zero] at s5
      have f3 : fs 3 = true := by cases ho; exact HAf.out ⟨3, .guard⟩ (by simp) rfl
      have s3 := HA.out 3 39 (by decide) f3 rfl
      simp only [List.getD_cons_succ, List.getD_cons_zero] at s3
      clear HAf HA HZ f5 f3
      cases ho
      go_simp
      exact HK.out _ HJ.out
    · intro o ho fs W HFi HAf HJ A HA HZ K' HK
      have f6 : fs 6 = true := by cases ho; exact HAf.out ⟨6, .data⟩ (by simp) rfl
      have s6 := HA.out 6 42 (by decide) f6 rfl
      simp only [List.getD_cons_succ, List.getD_cons_zero] at s6
      have f3 : fs 3 = true := by cases ho; exact HAf.out ⟨3, .guard⟩ (by simp) rfl
      have s3 := HA.out 3 39 (by decide) f3 rfl
      simp only [List.getD_cons_succ, List.getD_cons_zero] at s3
      clear HAf HA HZ f6 f3
      cases ho
      go_simp
      exact HK.out _ HJ.out
    · intro o ho fs W HFi HAf HJ A HA HZ K' HK
      have f3 : fs 3 = true := by cases ho; exact HAf.out ⟨3, .data⟩ (by simp) rfl
      have s3 := HA.out 3 39 (by decide) f3 rfl
      simp only [List.getD_cons_succ, List.getD_cons_zero] at s3
      have f7 : fs 7 = true := by cases ho; exact HAf.out ⟨7, .data⟩ (by simp) rfl
      have s7 := HA.out 7 43 (by decide) f7 rfl
      simp only [List.getD_cons_succ, List.getD_cons_zero] at s7
      clear HAf HA HZ f3 f7
      cases ho
      go_simp
      exact HK.out _ HJ.out
    · intro o ho fs W HFi HAf HJ A HA HZ K' HK
      have f8 : fs 8 = true := by cases ho; exact HAf.out ⟨8, .data⟩ (by simp) rfl
      have s8 := HA.out 8 44 (by decide) f8 rfl
      simp only [List.getD_cons_succ, List.getD_cons_zero] at s8
      clear HAf HA HZ f8
      cases ho
      go_simp
      exact HK.out _ HJ.out
    · intro o ho fs W HFi HAf HJ A HA HZ K' HK
      have z3 : A.tmps[3]? = some _ := HZ.out 3 (by decide)
      have f9 : fs 9 = true := by cases ho; exact HAf.out ⟨9, .chain⟩ (by simp) rfl
      have s9 := HA.out 9 45 (by decide) f9 rfl
      simp only [List.getD_cons_succ, List.getD_cons_zero] at s9
      clear HAf HA HZ f9
      cases ho
      go_simp
      exact HK.out _ HJ.out
    · intro o ho fs W HFi HAf HJ A HA HZ K' HK
      have z1 : A.tmps[1]? = some _ := HZ.out 1 (by decide)
      have f9 : fs 9 = true := by cases ho; exact HAf.out ⟨9, .guard⟩ (by simp) rfl
      have s9 := HA.out 9 45 (by decide) f9 rfl
      simp only [List.getD_cons_succ, List.getD_cons_zero] at s9
      clear HAf HA HZ f9
      cases ho
      go_simp
      exact HK.out _ HJ.out
    · intro o ho fs W HFi HAf HJ A HA HZ K' HK
      have f11 : fs 11 = true := by cases ho; exact HAf.out ⟨11, .data⟩ (by simp) rfl
      have s11 := HA.out 11 47 (by decide) f11 rfl
      simp only [List.getD_cons_succ, List.getD_cons_zero] at s11
      have f9 : fs 9 = true := by cases ho; exact HAf.out ⟨9, .guard⟩ (by simp) rfl
      have s9 := HA.out 9 45 (by decide) f9 rfl
      simp only [List.getD_cons_succ, List.getD_cons_zero] at s9
      clear HAf HA HZ f11 f9
      obtain ⟨P, HP, hP0⟩ := HJ.out
      obtain ⟨c0, c1, c2, c3, -⟩ := four_cells (HP.out.blk 1 rfl)
      cases ho
      go_simp
      exact HK.out _ HJ.out
    · intro o ho fs W HFi HAf HJ A HA HZ K' HK
      have f10 : fs 10 = true := by cases ho; exact HAf.out ⟨10, .data⟩ (by simp) rfl
      have s10 := HA.out 10 46 (by decide) f10 rfl
      simp only [List.getD_cons_succ, List.getD_cons_zero] at s10
      have f12 : fs 12 = true := by cases ho; exact HAf.out ⟨12, .data⟩ (by simp) rfl
      have s12 := HA.out 12 48 (by decide) f12 rfl
      simp only [List.getD_cons_succ, List.getD_cons_zero] at s12
      have f9 : fs 9 = true := by cases ho; exact HAf.out ⟨9, .guard⟩ (by simp) rfl
      have s9 := HA.out 9 45 (by decide) f9 rfl
      simp only [List.getD_cons_succ, List.getD_cons_zero] at s9
      clear HAf HA HZ f10 f12 f9
      cases ho
      go_simp
      exact HK.out _ HJ.out
    · intro o ho fs W HFi HAf HJ A HA HZ K' HK
      have f9 : fs 9 = true := by cases ho; exact HAf.out ⟨9, .data⟩ (by simp) rfl
      have s9 := HA.out 9 45 (by decide) f9 rfl
      simp only [List.getD_cons_succ, List.getD_cons_zero] at s9
      have f13 : fs 13 = true := by cases ho; exact HAf.out ⟨13, .data⟩ (by simp) rfl
      have s13 := HA.out 13 49 (by decide) f13 rfl
      simp only [List.getD_cons_succ, List.getD_cons_zero] at s13
      clear HAf HA HZ f9 f13
      cases ho
      go_simp
      exact HK.out _ HJ.out
    · intro o ho fs W HFi HAf HJ A HA HZ K' HK
      have f14 : fs 14 = true := by cases ho; exact HAf.out ⟨14, .data⟩ (by simp) rfl
      have s14 := HA.out 14 50 (by decide) f14 rfl
      simp only [List.getD_cons_succ, List.getD_cons_zero] at s14
      clear HAf HA HZ f14
      cases ho
      go_simp
      exact HK.out _ HJ.out
    · intro o ho fs W HFi HAf HJ A HA HZ K' HK
      have z1 : A.tmps[1]? = some _ := HZ.out 1 (by decide)
      have f15 : fs 15 = true := by cases ho; exact HAf.out ⟨15, .guard⟩ (by simp) rfl
      have s15 := HA.out 15 51 (by decide) f15 rfl
      simp only [List.getD_cons_succ, List.getD_cons_zero] at s15
      clear HAf HA HZ f15
      cases ho
      go_simp
      exact HK.out _ HJ.out
    · intro o ho fs W HFi HAf HJ A HA HZ K' HK
      have f16 : fs 16 = true := by cases ho; exact HAf.out ⟨16, .data⟩ (by simp) rfl
      have s16 := HA.out 16 52 (by decide) f16 rfl
      simp only [List.getD_cons_succ, List.getD_cons_zero] at s16
      have f15 : fs 15 = true := by cases ho; exact HAf.out ⟨15, .guard⟩ (by simp) rfl
      have s15 := HA.out 15 51 (by decide) f15 rfl
      simp only [List.getD_cons_succ, List.getD_cons_zero] at s15
      clear HAf HA HZ f16 f15
      obtain ⟨P, HP, hP0⟩ := HJ.out
      obtain ⟨c0, c1, c2, c3, -⟩ := four_cells (HP.out.blk 1 rfl)
      cases ho
      go_simp
      exact HK.out _ HJ.out
    · intro o ho fs W HFi HAf HJ A HA HZ K' HK
      have f17 : fs 17 = true := by cases ho; exact HAf.out ⟨17, .data⟩ (by simp) rfl
      have s17 := HA.out 17 53 (by decide) f17 rfl
      simp only [List.getD_cons_succ, List.getD_cons_zero] at s17
      have f15 : fs 15 = true := by cases ho; exact HAf.out ⟨15, .guard⟩ (by simp) rfl
      have s15 := HA.out 15 51 (by decide) f15 rfl
      simp only [List.getD_cons_succ, List.getD_cons_zero] at s15
      clear HAf HA HZ f17 f15
      cases ho
      go_simp
      exact HK.out _ HJ.out
    · intro o ho fs W HFi HAf HJ A HA HZ K' HK
      have f18 : fs 18 = true := by cases ho; exact HAf.out ⟨18, .data⟩ (by simp) rfl
      have s18 := HA.out 18 54 (by decide) f18 rfl
      simp only [List.getD_cons_succ, List.getD_cons_zero] at s18
      have f15 : fs 15 = true := by cases ho; exact HAf.out ⟨15, .guard⟩ (by simp) rfl
      have s15 := HA.out 15 51 (by decide) f15 rfl
      simp only [List.getD_cons_succ, List.getD_cons_zero] at s15
      clear HAf HA HZ f18 f15
      cases ho
      go_simp
      exact HK.out _ HJ.out
    · intro o ho fs W HFi HAf HJ A HA HZ K' HK
      have f19 : fs 19 = true := by cases ho; exact HAf.out ⟨19, .data⟩ (by simp) rfl
      have s19 := HA.out 19 55 (by decide) f19 rfl
      simp only [List.getD_cons_succ, List.getD_cons_zero] at s19
      have f15 : fs 15 = true := by cases ho; exact HAf.out ⟨15, .chain⟩ (by simp) rfl
      have s15 := HA.out 15 51 (by decide) f15 rfl
      simp only [List.getD_cons_succ, List.getD_cons_zero] at s15
      clear HAf HA HZ f19 f15
      cases ho
      go_simp
      exact HK.out _ HJ.out
    · intro o ho fs W HFi HAf HJ A HA HZ K' HK
      have z1 : A.tmps[1]? = some _ := HZ.out 1 (by decide)
      have f20 : fs 20 = true := by cases ho; exact HAf.out ⟨20, .guard⟩ (by simp) rfl
      have s20 := HA.out 20 56 (by decide) f20 rfl
      simp only [List.getD_cons_succ, List.getD_cons_zero] at s20
      clear HAf HA HZ f20
      cases ho
      go_simp
      exact HK.out _ HJ.out
    · intro o ho fs W HFi HAf HJ A HA HZ K' HK
      have f21 : fs 21 = true := by cases ho; exact HAf.out ⟨21, .data⟩ (by simp) rfl
      have s21 := HA.out 21 57 (by decide) f21 rfl
      simp only [List.getD_cons_succ, List.getD_cons_zero] at s21
      have f20 : fs 20 = true := by cases ho; exact HAf.out ⟨20, .guard⟩ (by simp) rfl
      have s20 := HA.out 20 56 (by decide) f20 rfl
      simp only [List.getD_cons_succ, List.getD_cons_zero] at s20
      clear HAf HA HZ f21 f20
      obtain ⟨P, HP, hP0⟩ := HJ.out
      obtain ⟨c0, c1, c2, c3, -⟩ := four_cells (HP.out.blk 1 rfl)
      cases ho
      go_simp
      exact HK.out _ HJ.out
    · intro o ho fs W HFi HAf HJ A HA HZ K' HK
      have f22 : fs 22 = true := by cases ho; exact HAf.out ⟨22, .data⟩ (by simp) rfl
      have s22 := HA.out 22 58 (by decide) f22 rfl
      simp only [List.getD_cons_succ, List.getD_cons_zero] at s22
      have f20 : fs 20 = true := by cases ho; exact HAf.out ⟨20, .guard⟩ (by simp) rfl
      have s20 := HA.out 20 56 (by decide) f20 rfl
      simp only [List.getD_cons_succ, List.getD_cons_zero] at s20
      clear HAf HA HZ f22 f20
      cases ho
      go_simp
      exact HK.out _ HJ.out
    · intro o ho fs W HFi HAf HJ A HA HZ K' HK
      have f23 : fs 23 = true := by cases ho; exact HAf.out ⟨23, .data⟩ (by simp) rfl
      have s23 := HA.out 23 59 (by decide) f23 rfl
      simp only [List.getD_cons_succ, List.getD_cons_zero] at s23
      have f20 : fs 20 = true := by cases ho; exact HAf.out ⟨20, .guard⟩ (by simp) rfl
      have s20 := HA.out 20 56 (by decide) f20 rfl
      simp only [List.getD_cons_succ, List.getD_cons_zero] at s20
      clear HAf HA HZ f23 f20
      cases ho
      go_simp
      exact HK.out _ HJ.out
    · intro o ho fs W HFi HAf HJ A HA HZ K' HK
      have f24 : fs 24 = true := by cases ho; exact HAf.out ⟨24, .data⟩ (by simp) rfl
      have s24 := HA.out 24 60 (by decide) f24 rfl
      simp only [List.getD_cons_succ, List.getD_cons_zero] at s24
      have f20 : fs 20 = true := by cases ho; exact HAf.out ⟨20, .chain⟩ (by simp) rfl
      have s20 := HA.out 20 56 (by decide) f20 rfl
      simp only [List.getD_cons_succ, List.getD_cons_zero] at s20
      clear HAf HA HZ f24 f20
      cases ho
      go_simp
      exact HK.out _ HJ.out
    · intro o ho fs W HFi HAf HJ A HA HZ K' HK
      have z1 : A.tmps[1]? = some _ := HZ.out 1 (by decide)
      have f25 : fs 25 = true := by cases ho; exact HAf.out ⟨25, .guard⟩ (by simp) rfl
      have s25 := HA.out 25 61 (by decide) f25 rfl
      simp only [List.getD_cons_succ, List.getD_cons_zero] at s25
      clear HAf HA HZ f25
      cases ho
      go_simp
      exact HK.out _ HJ.out
    · intro o ho fs W HFi HAf HJ A HA HZ K' HK
      have f26 : fs 26 = true := by cases ho; exact HAf.out ⟨26, .data⟩ (by simp) rfl
      have s26 := HA.out 26 62 (by decide) f26 rfl
      simp only [List.getD_cons_succ, List.getD_cons_zero] at s26
      have f25 : fs 25 = true := by cases ho; exact HAf.out ⟨25, .guard⟩ (by simp) rfl
      have s25 := HA.out 25 61 (by decide) f25 rfl
      simp only [List.getD_cons_succ, List.getD_cons_zero] at s25
      clear HAf HA HZ f26 f25
      obtain ⟨P, HP, hP0⟩ := HJ.out
      obtain ⟨c0, c1, c2, c3, -⟩ := four_cells (HP.out.blk 1 rfl)
      cases ho
      go_simp
      exact HK.out _ HJ.out
    · intro o ho fs W HFi HAf HJ A HA HZ K' HK
      have f27 : fs 27 = true := by cases ho; exact HAf.out ⟨27, .data⟩ (by simp) rfl
      have s27 := HA.out 27 63 (by decide) f27 rfl
      simp only [List.getD_cons_succ, List.getD_cons_zero] at s27
      have f25 : fs 25 = true := by cases ho; exact HAf.out ⟨25, .guard⟩ (by simp) rfl
      have s25 := HA.out 25 61 (by decide) f25 rfl
      simp only [List.getD_cons_succ, List.getD_cons_zero] at s25
      clear HAf HA HZ f27 f25
      cases ho
      go_simp
      exact HK.out _ HJ.out
    · intro o ho fs W HFi HAf HJ A HA HZ K' HK
      have f28 : fs 28 = true := by cases ho; exact HAf.out ⟨28, .data⟩ (by simp) rfl
      have s28 := HA.out 28 64 (by decide) f28 rfl
      simp only [List.getD_cons_succ, List.getD_cons_zero] at s28
      have f25 : fs 25 = true := by cases ho; exact HAf.out ⟨25, .guard⟩ (by simp) rfl
      have s25 := HA.out 25 61 (by decide) f25 rfl
      simp only [List.getD_cons_succ, List.getD_cons_zero] at s25
      clear HAf HA HZ f28 f25
      cases ho
      go_simp
      exact HK.out _ HJ.out
    · intro o ho fs W HFi HAf HJ A HA HZ K' HK
      have f25 : fs 25 = true := by cases ho; exact HAf.out ⟨25, .data⟩ (by simp) rfl
      have s25 := HA.out 25 61 (by decide) f25 rfl
      simp only [List.getD_cons_succ, List.getD_cons_zero] at s25
      have f29 : fs 29 = true := by cases ho; exact HAf.out ⟨29, .data⟩ (by simp) rfl
      have s29 := HA.out 29 65 (by decide) f29 rfl
      simp only [List.getD_cons_succ, List.getD_cons_zero] at s29
      have f20 : fs 20 = true := by cases ho; exact HAf.out ⟨20, .guard⟩ (by simp) rfl
      have s20 := HA.out 20 56 (by decide) f20 rfl
      simp only [List.getD_cons_succ, List.getD_cons_zero] at s20
      clear HAf HA HZ f25 f29 f20
      cases ho
      go_simp
      exact HK.out _ HJ.out
    · intro o ho fs W HFi HAf HJ A HA HZ K' HK
      have f20 : fs 20 = true := by cases ho; exact HAf.out ⟨20, .data⟩ (by simp) rfl
      have s20 := HA.out 20 56 (by decide) f20 rfl
      simp only [List.getD_cons_succ, List.getD_cons_zero] at s20
      have f30 : fs 30 = true := by cases ho; exact HAf.out ⟨30, .data⟩ (by simp) rfl
      have s30 := HA.out 30 66 (by decide) f30 rfl
      simp only [List.getD_cons_succ, List.getD_cons_zero] at s30
      have f15 : fs 15 = true := by cases ho; exact HAf.out ⟨15, .guard⟩ (by simp) rfl
      have s15 := HA.out 15 51 (by decide) f15 rfl
      simp only [List.getD_cons_succ, List.getD_cons_zero] at s15
      clear HAf HA HZ f20 f30 f15
      cases ho
      go_simp
      exact HK.out _ HJ.out
    · intro o ho fs W HFi HAf HJ A HA HZ K' HK
      have f15 : fs 15 = true := by cases ho; exact HAf.out ⟨15, .data⟩ (by simp) rfl
      have s15 := HA.out 15 51 (by decide) f15 rfl
      simp only [List.getD_cons_succ, List.getD_cons_zero] at s15
      have f31 : fs 31 = true := by cases ho; exact HAf.out ⟨31, .data⟩ (by simp) rfl
      have s31 := HA.out 31 67 (by decide) f31 rfl
      simp only [List.getD_cons_succ, List.getD_cons_zero] at s31
      clear HAf HA HZ f15 f31
      cases ho
      go_simp
      exact HK.out _ HJ.out
  · intro W hJ
    simp only [canon, Act.put, List.getD_cons_succ, List.getD_cons_zero, List.drop_succ_cons, List.drop_zero, List.setIfInBounds_toArray, List.set_cons_zero, List.set_cons_succ]
    obtain ⟨P, HP, -⟩ := hJ
    have HW := Lib.hid (HP.out.base 2 rfl)
    clear HP
    go_wp2_with fail
    go_ret
    exact ⟨rfl, HW.out.below (Nat.le_refl _) (fun _ _ h => h)⟩
set_option maxRecDepth 100000 in
set_option maxHeartbeats 8000000 in
theorem Valid_2long (k : Int) (tx : List UInt8) (n : Nat) (pos : Int) (w : World) (hk : k = 2) (hn : n = 0) (ht : tx ≠ []) (hw : ¬ tx.length ≤ 32) :
    Calls Tryz.prog 18 #[.agg #[.int .i64 k, .string (ba tx), .int .u64 (n : Int), .int .i64 pos]] w fun e w' => e = .returned (.bool false) ∧ Below w.heap.size w w' := by
  subst hn
  have x3 : (k == 3) = false := by simp; omega
  have x1 : (k == 1) = false := by simp; omega
  have x2 : (k == 2) = true := by simp; omega
  have x4 : (k == 4) = false := by simp; omega
  have x5 : (k == 5) = false := by simp; omega
  have x6 : (k == 6) = false := by simp; omega
  clear hk
  have xe : (ba tx).toList.isEmpty = false := by rw [ba_toList]; cases tx with | nil => exact absurd rfl ht | cons c r => rfl
  have s1 : ((ba tx).size : Int) = (tx.length : Int) := by rw [ba_size]
  have xl : ¬ (tx.length : Int) ≤ 32 := by omega
  clear ht hw
  go_enter Tryz.func18, Tryz.ntmps18
  go_upto_region 10 with (fail)
  have HB0 := Lib.hid (show Bq ((w.alloc (.cells #[.int .i64 k, .string (ba tx), .int .u64 ((0 : Nat) : Int), .int .i64 pos] 36 (0, 0))).alloc (.cells #[.string (ba tx), .int .i64 0, .map none] 43 (0, 0))).drew [.blk (w.heap.size + 1) #[.string (ba tx), .int .i64 (((0 : Nat) : Int)), .map none] 43, .blk w.heap.size #[.int .i64 k, .string (ba tx), .int .u64 ((0 : Nat) : Int), .int .i64 pos] 36, .base (fun _ => False) w] from (Bq.box (Bq.box (show Bq w [.base (fun _ => False) w] from ⟨Ch.refl _ _, trivial⟩) _ _ rfl) _ _ (World.size_alloc _ _)).dr)
  refine' wp_region_fix (by kernel_rfl) 33 [some 36, some 37, some 38, some 39, some 40, some 41, some 42, some 43, some 44, some 45, some 46, some 47, some 48, some 49, some 50, some 51, some 52, some 53, some 54, some 55, some 56, some 57, some 58, some 59, some 60, some 61, some 62, some 63, some 64, some 65, some 66, some 67, some 68] [_, _, _, _, _, _, _, _, _, _, _, _, _, _, _, _, _, _, _, _, _, _, _, _, _, _, _, _, _, _, _, _, _] [] (fun _ W => ∃ P : Nat, Hid (Bq W [.blk (w.heap.size + 1) #[.string (ba tx), .int .i64 ((P : Int)), .map none] 43, .blk w.heap.size #[.int .i64 k, .string (ba tx), .int .u64 ((0 : Nat) : Int), .int .i64 pos] 36, .base (fun _ => False) w]) ∧ P = 0) (by kernel_rfl) (by decide) (by kernel_rfl) (by decide) (by rfl) (by decide) (⟨0, HB0, rfl⟩) ?_ ?_
  rotate_left 33
  · refine all_cons 0 ?_ (all_cons 1 ?_ (all_cons 2 ?_ (all_cons 3 ?_ (all_cons 4 ?_ (all_cons 5 ?_ (all_cons 6 ?_ (all_cons 7 ?_ (all_cons 8 ?_ (all_cons 9 ?_ (all_cons 10 ?_ (all_cons 11 ?_ (all_cons 12 ?_ (all_cons 13 ?_ (all_cons 14 ?_ (all_cons 15 ?_ (all_cons 16 ?_ (all_cons 17 ?_ (all_cons 18 ?_ (all_cons 19 ?_ (all_cons 20 ?_ (all_cons 21 ?_ (all_cons 22 ?_ (all_cons 23 ?_ (all_cons 24 ?_ (all_cons 25 ?_ (all_cons 26 ?_ (all_cons 27 ?_ (all_cons 28 ?_ (all_cons 29 ?_ (all_cons 30 ?_ (all_cons 31 ?_ (all_cons 32 ?_ (all_done 33)))))))))))))))))))))))))))))))))
    · intro o ho fs W HFi HAf HJ A HA HZ K' HK
      have z1 : A.tmps[1]? = some _ := HZ.out 1 (by decide)
      clear HAf HA HZ
      cases ho
      go_simp
      exact HK.out _ HJ.out
    · intro o ho fs W HFi HAf HJ A HA HZ K' HK
      have f0 : fs 0 = true := by cases ho; exact HAf.out ⟨0, .data⟩ (by simp) rfl
      have s0 := HA.out 0 36 (by decide) f0 rfl
      simp only [List.getD_cons_zero] at s0
      clear HAf HA HZ f0
      obtain ⟨P, HP, hP0⟩ := HJ.out
      obtain ⟨c0, c1, c2, c3, -⟩ := four_cells (HP.out.blk 1 rfl)
      cases ho
      go_simp
      exact HK.out _ HJ.out
    · intro o ho fs W HFi HAf HJ A HA HZ K' HK
      have f1 : fs 1 = true := by cases ho; exact HAf.out ⟨1, .data⟩ (by simp) rfl
      have s1 := HA.out 1 37 (by decide) f1 rfl
      simp only [List.getD_cons_succ, List.getD_cons_zero] at s1
      clear HAf HA HZ f1
      cases ho
      go_simp
      exact HK.out _ HJ.out
    · intro o ho fs W HFi HAf HJ A HA HZ K' HK
      have f2 : fs 2 = true := by cases ho; exact HAf.out ⟨2, .data⟩ (by simp) rfl
      have s2 := HA.out 2 38 (by decide) f2 rfl
      simp only [List.getD_cons_succ, List.getD_cons_zero] at s2
      clear HAf HA HZ f2
      cases ho
      go_simp
      exact HK.out _ HJ.out
    · intro o ho fs W HFi HAf HJ A HA HZ K' HK
      have z1 : A.tmps[1]? = some _ := HZ.out 1 (by decide)
      have f3 : fs 3 = true := by cases ho; exact HAf.out ⟨3, .guard⟩ (by simp) rfl
      have s3 := HA.out 3 39 (by decide) f3 rfl
      simp only [List.getD_cons_succ, List.getD_cons_zero] at s3
      clear HAf HA HZ f3
      cases ho
      go_simp
      exact HK.out _ HJ.out
    · intro o ho fs W HFi HAf HJ A HA HZ K' HK
      have f4 : fs 4 = true := by cases ho; exact HAf.out ⟨4, .data⟩ (by simp) rfl
      have s4 := HA.out 4 40 (by decide) f4 rfl
      simp only [List.getD_cons_succ, List.getD_cons_zero] at s4
      have f3 : fs 3 = true := by cases ho; exact HAf.out ⟨3, .guard⟩ (by simp) rfl
      have s3 := HA.out 3 39 (by decide) f3 rfl
      simp only [List.getD_cons_succ, List.getD_cons_zero] at s3
      clear HAf HA HZ f4 f3
      obtain ⟨P, HP, hP0⟩ := HJ.out
      obtain ⟨c0, c1, c2, c3, -⟩ := four_cells (HP.out.blk 1 rfl)
      cases ho
      go_simp
      exact HK.out _ HJ.out
    · intro o ho fs W HFi HAf HJ A HA HZ K' HK
      have f5 : fs 5 = true := by cases ho; exact HAf.out ⟨5, .data⟩ (by simp) rfl
      have s5 := HA.out 5 41 (by decide) f5 rfl
      simp only [List.getD_cons_succ, List.getD_cons_zero] at s5
      have f3 : fs 3 = true := by cases ho; exact HAf.out ⟨3, .guard⟩ (by simp) rfl
      have s3 := HA.out 3 39 (by decide) f3 rfl
      simp only [List.getD_cons_succ, List.getD_cons_zero] at s3
      clear HAf HA HZ f5 f3
      cases ho
      go_simp
      exact HK.out _ HJ.out
    · intro o ho fs W HFi HAf HJ A HA HZ K' HK
      have f6 : fs 6 = true := by cases ho; exact HAf.out ⟨6, .data⟩ (by simp) rfl
      have s6 := HA.out 6 42 (by decide) f6 rfl
      simp only [List.getD_cons_succ, List.getD_cons_zero] at s6
      have f3 : fs 3 = true := by cases ho; exact HAf.out ⟨3, .guard⟩ (by simp) rfl
      have s3 := HA.out 3 39 (by decide) f3 rfl
      simp only [List.getD_cons_succ, List.getD_cons_zero] at s3
      clear HAf HA HZ f6 f3
      cases ho
      go_simp
      exact HK.out _ HJ.out
    · intro o ho fs W HFi HAf HJ A HA HZ K' HK
      have f3 : fs 3 = true := by cases ho; exact HAf.out ⟨3, .data⟩ (by simp) rfl
      have s3 := HA.out 3 39 (by decide) f3 rfl
      simp only [List.getD_cons_succ, List.getD_cons_zero] at s3
      have f7 : fs 7 = true := by cases ho; exact HAf.out ⟨7, .data⟩ (by simp) rfl
      have s7 := HA.out 7 43 (by decide) f7 rfl
      simp only [List.getD_cons_succ, List.getD_cons_zero] at s7
      clear HAf HA HZ f3 f7
      cases ho
      go_simp
      exact HK.out _ HJ.out
    · intro o ho fs W HFi HAf HJ A HA HZ K' HK
      have f8 : fs 8 = true := by cases ho; exact HAf.out ⟨8, .data⟩ (by simp) rfl
      have s8 := HA.out 8 44 (by decide) f8 rfl
      simp only [List.getD_cons_succ, List.getD_cons_zero] at s8
      clear HAf HA HZ f8
      cases ho
      go_simp
      exact HK.out _ HJ.out
    · intro o ho fs W HFi HAf HJ A HA HZ K' HK
      have z3 : A.tmps[3]? = some _ := HZ.out 3 (by decide)
      have f9 : fs 9 = true := by cases ho; exact HAf.out ⟨9, .chain⟩ (by simp) rfl
      have s9 := HA.out 9 45 (by decide) f9 rfl
      simp only [List.getD_cons_succ, List.getD_cons_zero] at s9
      clear HAf HA HZ f9
      cases ho
      go_simp
      exact HK.out _ HJ.out
    · intro o ho fs W HFi HAf HJ A HA HZ K' HK
      have z1 : A.tmps[1]? = some _ := HZ.out 1 (by decide)
      have f9 : fs 9 = true := by cases ho; exact HAf.out ⟨9, .guard⟩ (by simp) rfl
      have s9 := HA.out 9 45 (by decide) f9 rfl
      simp only [List.getD_cons_succ, List.getD_cons_zero] at s9
      clear HAf HA HZ f9
      cases ho
      go_simp
      exact HK.out _ HJ.out
    · intro o ho fs W HFi HAf HJ A HA HZ K' HK
      have f11 : fs 11 = true := by cases ho; exact HAf.out ⟨11, .data⟩ (by simp) rfl
      have s11 := HA.out 11 47 (by decide) f11 rfl
      simp only [List.getD_cons_succ, List.getD_cons_zero] at s11
      have f9 : fs 9 = true := by cases ho; exact HAf.out ⟨9, .guard⟩ (by simp) rfl
      have s9 := HA.out 9 45 (by decide) f9 rfl
      simp only [List.getD_cons_succ, List.getD_cons_zero] at s9
      clear HAf HA HZ f11 f9
      obtain ⟨P, HP, hP0⟩ := HJ.out
      obtain ⟨c0, c1, c2, c3, -⟩ := four_cells (HP.out.blk 1 rfl)
      cases ho
      go_simp
      exact HK.out _ HJ.out
    · intro o ho fs W HFi HAf HJ A HA HZ K' HK
      have f10 : fs 10 = true := by cases ho; exact HAf.out ⟨10, .data⟩ (by simp) rfl
      have s10 := HA.out 10 46 (by decide) f10 rfl
      simp only [List.getD_cons_succ, List.getD_cons_zero] at s10
      have f12 : fs 12 = true := by cases ho; exact HAf.out ⟨12, .data⟩ (by simp) rfl
      have s12 := HA.out 12 48 (by decide) f12 rfl
      simp only [List.getD_cons_succ, List.getD_cons_zero] at s12
      have f9 : fs 9 = true := by cases ho; exact HAf.out ⟨9, .guard⟩ (by simp) rfl
      have s9 := HA.out 9 45 (by decide) f9 rfl
      simp only [List.getD_cons_succ, List.getD_cons_zero] at s9
      clear HAf HA HZ f10 f12 f9
      cases ho
      go_simp
      exact HK.out _ HJ.out
    · intro o ho fs W HFi HAf HJ A HA HZ K' HK
      have f9 : fs 9 = true := by cases ho; exact HAf.out ⟨9, .data⟩ (by simp) rfl
      have s9 := HA.out 9 45 (by decide) f9 rfl
      simp only [List.getD_cons_succ, List.getD_cons_zero] at s9
      have f13 : fs 13 = true := by cases ho; exact HAf.out ⟨13, .data⟩ (by simp) rfl
      have s13 := HA.out 13 49 (by decide) f13 rfl
      simp only [List.getD_cons_succ, List.getD_cons_zero] at s13
      clear HAf HA HZ f9 f13
      cases ho
      go_simp
      exact HK.out _ HJ.out
    · intro o ho fs W HFi HAf HJ A HA HZ K' HK
      have f14 : fs 14 = true := by cases ho; exact HAf.out ⟨14, .data⟩ (by simp) rfl
      have s14 := HA.out 14 50 (by decide) f14 rfl
      simp only [List.getD_cons_succ, List.getD_cons_zero] at s14
      clear HAf HA HZ f14
      cases ho
      go_simp
      exact HK.out _ HJ.out
    · intro o ho fs W HFi HAf HJ A HA HZ K' HK
      have z1 : A.tmps[1]? = some _ := HZ.out 1 (by decide)
      have f15 : fs 15 = true := by cases ho; exact HAf.out ⟨15, .guard⟩ (by simp) rfl
      have s15 := HA.out 15 51 (by decide) f15 rfl
      simp only [List.getD_cons_succ, List.getD_cons_zero] at s15
      clear HAf HA HZ f15
      cases ho
      go_simp
      exact HK.out _ HJ.out
    · intro o ho fs W HFi HAf HJ A HA HZ K' HK
      have f16 : fs 16 = true := by cases ho; exact HAf.out ⟨16, .data⟩ (by simp) rfl
      have s16 := HA.out 16 52 (by decide) f16 rfl
      simp only [List.getD_cons_succ, List.getD_cons_zero] at s16
      have f15 : fs 15 = true := by cases ho; exact HAf.out ⟨15, .guard⟩ (by simp) rfl
      have s15 := HA.out 15 51 (by decide) f15 rfl
      simp only [List.getD_cons_succ, List.getD_cons_zero] at s15
      clear HAf HA HZ f16 f15
      obtain ⟨P, HP, hP0⟩ := HJ.out
      obtain ⟨c0, c1, c2, c3, -⟩ := four_cells (HP.out.blk 1 rfl)
      cases ho
      go_simp
      exact HK.out _ HJ.out
    · intro o ho fs W HFi HAf HJ A HA HZ K' HK
      have f17 : fs 17 = true := by cases ho; exact HAf.out ⟨17, .data⟩ (by simp) rfl
      have s17 := HA.out 17 53 (by decide) f17 rfl
      simp only [List.getD_cons_succ, List.getD_cons_zero] at s17
      have f15 : fs 15 = true := by cases ho; exact HAf.out ⟨15, .guard⟩ (by simp) rfl
      have s15 := HA.out 15 51 (by decide) f15 rfl
      simp only [List.getD_cons_succ, List.getD_cons_zero] at s15
      clear HAf HA HZ f17 f15
      cases ho
      go_simp
      exact HK.out _ HJ.out
    · intro o ho fs W HFi HAf HJ A HA HZ K' HK
      have f18 : fs 18 = true := by cases ho; exact HAf.out ⟨18, .data⟩ (by simp) rfl
      have s18 := HA.out 18 54 (by decide) f18 rfl
      simp only [List.getD_cons_succ, List.getD_cons_zero] at s18
      have f15 : fs 15 = true := by cases ho; exact HAf.out ⟨15, .guard⟩ (by simp) rfl
      have s15 := HA.out 15 51 (by decide) f15 rfl
      simp only [List.getD_cons_succ, List.getD_cons_zero] at s15
      clear HAf HA HZ f18 f15
      cases ho
      go_simp
      exact HK.out _ HJ.out
    · intro o ho fs W HFi HAf HJ A HA HZ K' HK
      have f19 : fs 19 = true := by cases ho; exact HAf.out ⟨19, .data⟩ (by simp) rfl
      have s19 := HA.out 19 55 (by decide) f19 rfl
      simp only [List.getD_cons_succ, List.getD_cons_zero] at s19
      have f15 : fs 15 = true := by cases ho; exact HAf.out ⟨15, .chain⟩ (by simp) rfl
      have s15 := HA.out 15 51 (by decide) f15 rfl
      simp only [List.getD_cons_succ, List.getD_cons_zero] at s15
      clear HAf HA HZ f19 f15
      cases ho
      go_simp
      exact HK.out _ HJ.out
    · intro o ho fs W HFi HAf HJ A HA HZ K' HK
      have z1 : A.tmps[1]? = some _ := HZ.out 1 (by decide)
      have f20 : fs 20 = true := by cases ho; exact HAf.out ⟨20, .guard⟩ (by simp) rfl
      have s20 := HA.out 20 56 (by decide) f20 rfl
      simp only [List.getD_cons_succ, List.getD_cons_zero] at s20
      clear HAf HA HZ f20
      cases ho
      go_simp
      exact HK.out _ HJ.out
    · intro o ho fs W HFi HAf HJ A HA HZ K' HK
      have f21 : fs 21 = true := by cases ho; exact HAf.out ⟨21, .data⟩ (by simp) rfl
      have s21 := HA.out 21 57 (by decide) f21 rfl
      simp only [List.getD_cons_succ, List.getD_cons_zero] at s21
      have f20 : fs 20 = true := by cases ho; exact HAf.out ⟨20, .guard⟩ (by simp) rfl
      have s20 := HA.out 20 56 (by decide) f20 rfl
      simp only [List.getD_cons_succ, List.getD_cons_zero] at s20
      clear HAf HA HZ f21 f20
      obtain ⟨P, HP, hP0⟩ := HJ.out
      obtain ⟨c0, c1, c2, c3, -⟩ := four_cells (HP.out.blk 1 rfl)
      cases ho
      go_simp
      exact HK.out _ HJ.out
    · intro o ho fs W HFi HAf HJ A HA HZ K' HK
      have f22 : fs 22 = true := by cases ho; exact HAf.out ⟨22, .data⟩ (by simp) rfl
      have s22 := HA.out 22 58 (by decide) f22 rfl
      simp only [List.getD_cons_succ, List.getD_cons_zero] at s22
      have f20 : fs 20 = true := by cases ho; exact HAf.out ⟨20, .guard⟩ (by simp) rfl
      have s20 := HA.out 20 56 (by decide) f20 rfl
      simp only [List.getD_cons_succ, List.getD_cons_zero] at s20
      clear HAf HA HZ f22 f20
      cases ho
      go_simp
      exact HK.out _ HJ.out
    · intro o ho fs W HFi HAf HJ A HA HZ K' HK
      have f23 : fs 23 = true := by cases ho; exact HAf.out ⟨23, .data⟩ (by simp) rfl
      have s23 := HA.out 23 59 (by decide) f23 rfl
      simp only [List.getD_cons_succ, List.getD_cons_zero] at s23
      have f20 : fs 20 = true := by cases ho; exact HAf.out ⟨20, .guard⟩ (by simp) rfl
      have s20 := HA.out 20 56 (by decide) f20 rfl
      simp only [List.getD_cons_succ, List.getD_cons_zero] at s20
      clear HAf HA HZ f23 f20
      cases ho
      go_simp
      exact HK.out _ HJ.out
    · intro o ho fs W HFi HAf HJ A HA HZ K' HK
      have f24 : fs 24 = true := by cases ho; exact HAf.out ⟨24, .data⟩ (by simp) rfl
      have s24 := HA.out 24 60 (by decide) f24 rfl
      simp only [List.getD_cons_succ, List.getD_cons_zero] at s24
      have f20 : fs 20 = true := by cases ho; exact HAf.out ⟨20, .chain⟩ (by simp) rfl
      have s20 := HA.out 20 56 (by decide) f20 rfl
      simp only [List.getD_cons_succ, List.getD_cons_zero] at s20
      clear HAf HA HZ f24 f20
      cases ho
      go_simp
      exact HK.out _ HJ.out
    · intro o ho fs W HFi HAf HJ A HA HZ K' HK
      have z1 : A.tmps[1]? = some _ := HZ.out 1 (by decide)
      have f25 : fs 25 = true := by cases ho; exact HAf.out ⟨25, .guard⟩ (by simp) rfl
      have s25 := HA.out 25 61 (by decide) f25 rfl
      simp only [List.getD_cons_succ, List.getD_cons_zero] at s25
      clear HAf HA HZ f25
      cases ho
      go_simp
      exact HK.out _ HJ.out
    · intro o ho fs W HFi HAf HJ A HA HZ K' HK
      have f26 : fs 26 = true := by cases ho; exact HAf.out ⟨26, .data⟩ (by simp) rfl
      have s26 := HA.out 26 62 (by decide) f26 rfl
      simp only [List.getD_cons_succ, List.getD_cons_zero] at s26
      have f25 : fs 25 = true := by cases ho; exact HAf.out ⟨25, .guard⟩ (by simp) rfl
      have s25 := HA.out 25 61 (by decide) f25 rfl
      simp only [List.getD_cons_succ, List.getD_cons_zero] at s25
      clear HAf HA HZ f26 f25
      obtain ⟨P, HP, hP0⟩ := HJ.out
      obtain ⟨c0, c1, c2, c3, -⟩ := four_cells (HP.out.blk 1 rfl)
      cases ho
      go_simp
      exact HK.out _ HJ.out
    · intro o ho fs W HFi HAf HJ A HA HZ K' HK
      have f27 : fs 27 = true := by cases ho; exact HAf.out ⟨27, .data⟩ (by simp) rfl
      have s27 := HA.out 27 63 (by decide) f27 rfl
      simp only [List.getD_cons_succ, List.getD_cons_zero] at s27
      have f25 : fs 25 = true := by cases ho; exact HAf.out ⟨25, .guard⟩ (by simp) rfl
      have s25 := HA.out 25 61 (by decide) f25 rfl
      simp only [List.getD_cons_succ, List.getD_cons_zero] at s25
      clear HAf HA HZ f27 f25
      cases ho
      go_simp
      exact HK.out _ HJ.out
    · intro o ho fs W HFi HAf HJ A HA HZ K' HK
      have f28 : fs 28 = true := by cases ho; exact HAf.out ⟨28, .data⟩ (by simp) rfl
      have s28 := HA.out 28 64 (by decide) f28 rfl
      simp only [List.getD_cons_succ, List.getD_cons_zero] at s28
      have f25 : fs 25 = true := by cases ho; exact HAf.out ⟨25, .guard⟩ (by simp) rfl
      have s25 := HA.out 25 61 (by decide) f25 rfl
      simp only [List.getD_cons_succ, List.getD_cons_zero] at s25
      clear HAf HA HZ f28 f25
      cases ho
      go_simp
      exact HK.out _ HJ.out
    · intro o ho fs W HFi HAf HJ A HA HZ K' HK
      have f25 : fs 25 = true := by cases ho; exact HAf.out ⟨25, .data⟩ (by simp) rfl
      have s25 := HA.out 25 61 (by decide) f25 rfl
      simp only [List.getD_cons_succ, List.getD_cons_zero] at s25
      have f29 : fs 29 = true := by cases ho; exact HAf.out ⟨29, .data⟩ (by simp) rfl
      have s29 := HA.out 29 65 (by decide) f29 rfl
      simp only [List.getD_cons_succ, List.getD_cons_zero] at s29
      have f20 : fs 20 = true := by cases ho; exact HAf.out ⟨20, .guard⟩ (by simp) rfl
      have s20 := HA.out 20 56 (by decide) f20 rfl
      simp only [List.getD_cons_succ, List.getD_cons_zero] at s20
      clear HAf HA HZ f25 f29 f20
      cases ho
      go_simp
      exact HK.out _ HJ.out
    · intro o ho fs W HFi HAf HJ A HA HZ K' HK
      have f20 : fs 20 = true := by cases ho; exact HAf.out ⟨20, .data⟩ (by simp) rfl
      have s20 := HA.out 20 56 (by decide) f20 rfl
      simp only [List.getD_cons_succ, List.getD_cons_zero] at s20
      have f30 : fs 30 = true := by cases ho; exact HAf.out ⟨30, .data⟩ (by simp) rfl
      have s30 := HA.out 30 66 (by decide) f30 rfl
      simp only [List.getD_cons_succ, List.getD_cons_zero] at s30
      have f15 : fs 15 = true := by cases ho; exact HAf.out ⟨15, .guard⟩ (by simp) rfl
      have s15 := HA.out 15 51 (by decide) f15 rfl
      simp only [List.getD_cons_succ, List.getD_cons_zero] at s15
      clear HAf HA HZ f20 f30 f15
      cases ho
      go_simp
      exact HK.out _ HJ.out
    · intro o ho fs W HFi HAf HJ A HA HZ K' HK
      have f15 : fs 15 = true := by cases ho; exact HAf.out ⟨15, .data⟩ (by simp) rfl
      have s15 := HA.out 15 51 (by decide) f15 rfl
      simp only [List.getD_cons_succ, List.getD_cons_zero] at s15
      have f31 : fs 31 = true := by cases ho; exact HAf.out ⟨31, .data⟩ (by simp) rfl
      have s31 := HA.out 31 67 (by decide) f31 rfl
      simp only [List.getD_cons_succ, List.getD_cons_zero] at s31
      clear HAf HA HZ f15 f31
      cases ho
      go_simp
      exact HK.out _ HJ.out
  · intro W hJ
    simp only [canon, Act.put, List.getD_cons_succ, List.getD_cons_zero, List.drop_succ_cons, List.drop_zero, List.setIfInBounds_toArray, List.set_cons_zero, List.set_cons_succ]
    obtain ⟨P, HP, -⟩ := hJ
    have HW := Lib.hid (HP.out.base 2 rfl)
    clear HP
    go_wp2_with fail
    go_ret
    exact ⟨rfl, HW.out.below (Nat.le_refl _) (fun _ _ h => h)⟩
set_option maxRecDepth 100000 in
set_option maxHeartbeats 8000000 in
theorem Valid_2not (k : Int) (tx : List UInt8) (n : Nat) (pos : Int) (w : World) (hk : k = 2) (hn : n = 0) (ht : tx ≠ []) (hl : tx.length ≤ 32) (hw : ¬ tx.takeWhile namC = tx) :
    Calls Tryz.prog 18 #[.agg #[.int .i64 k, .string (ba tx), .int .u64 (n : Int), .int .i64 pos]] w fun e w' => e = .returned (.bool false) ∧ Below w.heap.size w w' := by
  subst hn
  have x3 : (k == 3) = false := by simp; omega
  have x1 : (k == 1) = false := by simp; omega
  have x2 : (k == 2) = true := by simp; omega
  have x4 : (k == 4) = false := by simp; omega
  have x5 : (k == 5) = false := by simp; omega
  have x6 : (k == 6) = false := by simp; omega
  clear hk
  have xe : (ba tx).toList.isEmpty = false := by rw [ba_toList]; cases tx with | nil => exact absurd rfl ht | cons c r => rfl
  have s1 : ((ba tx).size : Int) = (tx.length : Int) := by rw [ba_size]
  have xl : (tx.length : Int) ≤ 32 := by omega
  have hks : 0 < (ba tx).size := by rw [ba_size]; cases tx with | nil => exact absurd rfl ht | cons c r => simp
  have hks2 : 0 < tx.length := by rw [ba_size] at hks; exact hks
  clear ht
  have xq : ((ba (tx.takeWhile namC)).toList == (ba tx).toList) = false := by rw [ba_toList, ba_toList]; simpa using hw
  clear hw
  go_enter Tryz.func18, Tryz.ntmps18
  go_upto_region 10 with (fail)
  have HB0 := Lib.hid (show Bq ((w.alloc (.cells #[.int .i64 k, .string (ba tx), .int .u64 ((0 : Nat) : Int), .int .i64 pos] 36 (0, 0))).alloc (.cells #[.string (ba tx), .int .i64 0, .map none] 43 (0, 0))).drew [.blk (w.heap.size + 1) #[.string (ba tx), .int .i64 (((0 : Nat) : Int)), .map none] 43, .blk w.heap.size #[.int .i64 k, .string (ba tx), .int .u64 ((0 : Nat) : Int), .int .i64 pos] 36, .base (fun _ => False) w] from (Bq.box (Bq.box (show Bq w [.base (fun _ => False) w] from ⟨Ch.refl _ _, trivial⟩) _ _ rfl) _ _ (World.size_alloc _ _)).dr)
  refine' wp_region_fix (by kernel_rfl) 33 [some 36, some 37, some 38, some 39, some 40, some 41, some 42, some 43, some 44, some 45, some 46, some 47, some 48, some 49, some 50, some 51, some 52, some 53, some 54, some 55, some 56, some 57, some 58, some 59, some 60, some 61, some 62, some 63, some 64, some 65, some 66, some 67, some 68] [_, _, _, _, _, _, _, _, _, _, _, _, _, _, _, _, _, _, _, _, _, _, _, _, _, _, _, _, _, _, _, _, _] [10] (fun fs W => ∃ P : Nat, Hid (Bq W [.blk (w.heap.size + 1) #[.string (ba tx), .int .i64 ((P : Int)), .map none] 43, .blk w.heap.size #[.int .i64 k, .string (ba tx), .int .u64 ((0 : Nat) : Int), .int .i64 pos] 36, .base (fun _ => False) w]) ∧ (fs = [false] → P = 0)) (by kernel_rfl) (by decide) (by kernel_rfl) (by decide) (by rfl) (by decide) (⟨0, HB0, fun _ => rfl⟩) ?_ ?_
  rotate_left 33
  · refine all_cons 0 ?_ (all_cons 1 ?_ (all_cons 2 ?_ (all_cons 3 ?_ (all_cons 4 ?_ (all_cons 5 ?_ (all_cons 6 ?_ (all_cons 7 ?_ (all_cons 8 ?_ (all_cons 9 ?_ (all_cons 10 ?_ (all_cons 11 ?_ (all_cons 12 ?_ (all_cons 13 ?_ (all_cons 14 ?_ (all_cons 15 ?_ (all_cons 16 ?_ (all_cons 17 ?_ (all_cons 18 ?_ (all_cons 19 ?_ (all_cons 20 ?_ (all_cons 21 ?_ (all_cons 22 ?_ (all_cons 23 ?_ (all_cons 24 ?_ (all_cons 25 ?_ (all_cons 26 ?_ (all_cons 27 ?_ (all_cons 28 ?_ (all_cons 29 ?_ (all_cons 30 ?_ (all_cons 31 ?_ (all_cons 32 ?_ (all_done 33)))))))))))))))))))))))))))))))))
    · intro o ho fs W HFi HAf HJ A HA HZ K' HK
      have z1 : A.tmps[1]? = some _ := HZ.out 1 (by decide)
      clear HAf HA HZ
      cases ho
      go_simp
      exact HK.out _ (by rw [upd_map fs (by decide)]; exact HJ.out)
    · intro o ho fs W HFi HAf HJ A HA HZ K' HK
      have f0 : fs 0 = true := by cases ho; exact HAf.out ⟨0, .data⟩ (by simp) rfl
      have s0 := HA.out 0 36 (by decide) f0 rfl
      simp only [List.getD_cons_zero] at s0
      clear HAf HA HZ f0
      obtain ⟨P, HP, hP0⟩ := HJ.out
      obtain ⟨c0, c1, c2, c3, -⟩ := four_cells (HP.out.blk 1 rfl)
      cases ho
      go_simp
      exact HK.out _ (by rw [upd_map fs (by decide)]; exact HJ.out)
    · intro o ho fs W HFi HAf HJ A HA HZ K' HK
      have f1 : fs 1 = true := by cases ho; exact HAf.out ⟨1, .data⟩ (by simp) rfl
      have s1 := HA.out 1 37 (by decide) f1 rfl
      simp only [List.getD_cons_succ, List.getD_cons_zero] at s1
      clear HAf HA HZ f1
      cases ho
      go_simp
      exact HK.out _ (by rw [upd_map fs (by decide)]; exact HJ.out)
    · intro o ho fs W HFi HAf HJ A HA HZ K' HK
      have f2 : fs 2 = true := by cases ho; exact HAf.out ⟨2, .data⟩ (by simp) rfl
      have s2 := HA.out 2 38 (by decide) f2 rfl
      simp only [List.getD_cons_succ, List.getD_cons_zero] at s2
      clear HAf HA HZ f2
      cases ho
      go_simp
      exact HK.out _ (by rw [upd_map fs (by decide)]; exact HJ.out)
    · intro o ho fs W HFi HAf HJ A HA HZ K' HK
      have z1 : A.tmps[1]? = some _ := HZ.out 1 (by decide)
      have f3 : fs 3 = true := by cases ho; exact HAf.out ⟨3, .guard⟩ (by simp) rfl
      have s3 := HA.out 3 39 (by decide) f3 rfl
      simp only [List.getD_cons_succ, List.getD_cons_zero] at s3
      clear HAf HA HZ f3
      cases ho
      go_simp
      exact HK.out _ (by rw [upd_map fs (by decide)]; exact HJ.out)
    · intro o ho fs W HFi HAf HJ A HA HZ K' HK
      have f4 : fs 4 = true := by cases ho; exact HAf.out ⟨4, .data⟩ (by simp) rfl
      have s4 := HA.out 4 40 (by decide) f4 rfl
      simp only [List.getD_cons_succ, List.getD_cons_zero] at s4
      have f3 : fs 3 = true := by cases ho; exact HAf.out ⟨3, .guard⟩ (by simp) rfl
      have s3 := HA.out 3 39 (by decide) f3 rfl
      simp only [List.getD_cons_succ, List.getD_cons_zero] at s3
      clear HAf HA HZ f4 f3
      obtain ⟨P, HP, hP0⟩ := HJ.out
      obtain ⟨c0, c1, c2, c3, -⟩ := four_cells (HP.out.blk 1 rfl)
      cases ho
      go_simp
      exact HK.out _ (by rw [upd_map fs (by decide)]; exact HJ.out)
    · intro o ho fs W HFi HAf HJ A HA HZ K' HK
      have f5 : fs 5 = true := by cases ho; exact HAf.out ⟨5, .data⟩ (by simp) rfl
      have s5 := HA.out 5 41 (by decide) f5 rfl
      simp only [List.getD_cons_succ, List.getD_cons_zero] at s5
      have f3 : fs 3 = true := by cases ho; exact HAf.out ⟨3, .guard⟩ (by simp) rfl
      have s3 := HA.out 3 39 (by decide) f3 rfl
      simp only [List.getD_cons_succ, List.getD_cons_zero] at s3
      clear HAf HA HZ f5 f3
      cases ho
      go_simp
      exact HK.out _ (by rw [upd_map fs (by decide)]; exact HJ.out)
    · intro o ho fs W HFi HAf HJ A HA HZ K' HK
      have f6 : fs 6 = true := by cases ho; exact HAf.out ⟨6, .data⟩ (by simp) rfl
      have s6 := HA.out 6 42 (by decide) f6 rfl
      simp only [List.getD_cons_succ, List.getD_cons_zero] at s6
      have f3 : fs 3 = true := by cases ho; exact HAf.out ⟨3, .guard⟩ (by simp) rfl
      have s3 := HA.out 3 39 (by decide) f3 rfl
      simp only [List.getD_cons_succ, List.getD_cons_zero] at s3
      clear HAf HA HZ f6 f3
      cases ho
      go_simp
      exact HK.out _ (by rw [upd_map fs (by decide)]; exact HJ.out)
    · intro o ho fs W HFi HAf HJ A HA HZ K' HK
      have f3 : fs 3 = true := by cases ho; exact HAf.out ⟨3, .data⟩ (by simp) rfl
      have s3 := HA.out 3 39 (by decide) f3 rfl
      simp only [List.getD_cons_succ, List.getD_cons_zero] at s3
      have f7 : fs 7 = true := by cases ho; exact HAf.out ⟨7, .data⟩ (by simp) rfl
      have s7 := HA.out 7 43 (by decide) f7 rfl
      simp only [List.getD_cons_succ, List.getD_cons_zero] at s7
      clear HAf HA HZ f3 f7
      cases ho
      go_simp
      exact HK.out _ (by rw [upd_map fs (by decide)]; exact HJ.out)
    · intro o ho fs W HFi HAf HJ A HA HZ K' HK
      have f8 : fs 8 = true := by cases ho; exact HAf.out ⟨8, .data⟩ (by simp) rfl
      have s8 := HA.out 8 44 (by decide) f8 rfl
      simp only [List.getD_cons_succ, List.getD_cons_zero] at s8
      clear HAf HA HZ f8
      cases ho
      go_simp
      exact HK.out _ (by rw [upd_map fs (by decide)]; exact HJ.out)
    · intro o ho fs W HFi HAf HJ A HA HZ K' HK
      have z3 : A.tmps[3]? = some _ := HZ.out 3 (by decide)
      have f9 : fs 9 = true := by cases ho; exact HAf.out ⟨9, .chain⟩ (by simp) rfl
      have s9 := HA.out 9 45 (by decide) f9 rfl
      simp only [List.getD_cons_succ, List.getD_cons_zero] at s9
      clear HAf HA HZ f9
      cases ho
      have hfi := HFi.out
      obtain ⟨P, HP, hP0⟩ := HJ.out
      obtain rfl : P = 0 := hP0 (by rw [List.map_singleton, hfi])
      clear hP0
      go_simp
      refine (run_t _ namC named_t (w.heap.size + 1) tx 0 (.map none) W (HP.out.blk 0 rfl) (by omega) (Nat.zero_le _)).mono ?_
      rintro e w' ⟨rfl, hr, ho⟩
      rw [List.drop_zero] at *
      exact HK.out _ ⟨_, Lib.hid (HP.out.call 0 ho hr (by refine ⟨?_, ?_, trivial⟩ <;> (simp only [Fq.apart]; first | omega | (intro b h1 h2; omega) | (intro b h1; omega) | (intro b h1 h2 h3; omega)))), fun h => by rw [List.map_singleton, upd_at] at h; cases h⟩
    · intro o ho fs W HFi HAf HJ A HA HZ K' HK
      have z1 : A.tmps[1]? = some _ := HZ.out 1 (by decide)
      have f9 : fs 9 = true := by cases ho; exact HAf.out ⟨9, .guard⟩ (by simp) rfl
      have s9 := HA.out 9 45 (by decide) f9 rfl
      simp only [List.getD_cons_succ, List.getD_cons_zero] at s9
      clear HAf HA HZ f9
      cases ho
      go_simp
      exact HK.out _ (by rw [upd_map fs (by decide)]; exact HJ.out)
    · intro o ho fs W HFi HAf HJ A HA HZ K' HK
      have f11 : fs 11 = true := by cases ho; exact HAf.out ⟨11, .data⟩ (by simp) rfl
      have s11 := HA.out 11 47 (by decide) f11 rfl
      simp only [List.getD_cons_succ, List.getD_cons_zero] at s11
      have f9 : fs 9 = true := by cases ho; exact HAf.out ⟨9, .guard⟩ (by simp) rfl
      have s9 := HA.out 9 45 (by decide) f9 rfl
      simp only [List.getD_cons_succ, List.getD_cons_zero] at s9
      clear HAf HA HZ f11 f9
      obtain ⟨P, HP, hP0⟩ := HJ.out
      obtain ⟨c0, c1, c2, c3, -⟩ := four_cells (HP.out.blk 1 rfl)
      cases ho
      go_simp
      exact HK.out _ (by rw [upd_map fs (by decide)]; exact HJ.out)
    · intro o ho fs W HFi HAf HJ A HA HZ K' HK
      have f10 : fs 10 = true := by cases ho; exact HAf.out ⟨10, .data⟩ (by simp) rfl
      have s10 := HA.out 10 46 (by decide) f10 rfl
      simp only [List.getD_cons_succ, List.getD_cons_zero] at s10
      have f12 : fs 12 = true := by cases ho; exact HAf.out ⟨12, .data⟩ (by simp) rfl
      have s12 := HA.out 12 48 (by decide) f12 rfl
      simp only [List.getD_cons_succ, List.getD_cons_zero] at s12
      have f9 : fs 9 = true := by cases ho; exact HAf.out ⟨9, .guard⟩ (by simp) rfl
      have s9 := HA.out 9 45 (by decide) f9 rfl
      simp only [List.getD_cons_succ, List.getD_cons_zero] at s9
      clear HAf HA HZ f10 f12 f9
      cases ho
      go_simp
      exact HK.out _ (by rw [upd_map fs (by decide)]; exact HJ.out)
    · intro o ho fs W HFi HAf HJ A HA HZ K' HK
      have f9 : fs 9 = true := by cases ho; exact HAf.out ⟨9, .data⟩ (by simp) rfl
      have s9 := HA.out 9 45 (by decide) f9 rfl
      simp only [List.getD_cons_succ, List.getD_cons_zero] at s9
      have f13 : fs 13 = true := by cases ho; exact HAf.out ⟨13, .data⟩ (by simp) rfl
      have s13 := HA.out 13 49 (by decide) f13 rfl
      simp only [List.getD_cons_succ, List.getD_cons_zero] at s13
      clear HAf HA HZ f9 f13
      cases ho
      go_simp
      exact HK.out _ (by rw [upd_map fs (by decide)]; exact HJ.out)
    · intro o ho fs W HFi HAf HJ A HA HZ K' HK
      have f14 : fs 14 = true := by cases ho; exact HAf.out ⟨14, .data⟩ (by simp) rfl
      have s14 := HA.out 14 50 (by decide) f14 rfl
      simp only [List.getD_cons_succ, List.getD_cons_zero] at s14
      clear HAf HA HZ f14
      cases ho
      go_simp
      exact HK.out _ (by rw [upd_map fs (by decide)]; exact HJ.out)
    · intro o ho fs W HFi HAf HJ A HA HZ K' HK
      have z1 : A.tmps[1]? = some _ := HZ.out 1 (by decide)
      have f15 : fs 15 = true := by cases ho; exact HAf.out ⟨15, .guard⟩ (by simp) rfl
      have s15 := HA.out 15 51 (by decide) f15 rfl
      simp only [List.getD_cons_succ, List.getD_cons_zero] at s15
      clear HAf HA HZ f15
      cases ho
      go_simp
      exact HK.out _ (by rw [upd_map fs (by decide)]; exact HJ.out)
    · intro o ho fs W HFi HAf HJ A HA HZ K' HK
      have f16 : fs 16 = true := by cases ho; exact HAf.out ⟨16, .data⟩ (by simp) rfl
      have s16 := HA.out 16 52 (by decide) f16 rfl
      simp only [List.getD_cons_succ, List.getD_cons_zero] at s16
      have f15 : fs 15 = true := by cases ho; exact HAf.out ⟨15, .guard⟩ (by simp) rfl
      have s15 := HA.out 15 51 (by decide) f15 rfl
      simp only [List.getD_cons_succ, List.getD_cons_zero] at s15
      clear HAf HA HZ f16 f15
      obtain ⟨P, HP, hP0⟩ := HJ.out
      obtain ⟨c0, c1, c2, c3, -⟩ := four_cells (HP.out.blk 1 rfl)
      cases ho
      go_simp
      exact HK.out _ (by rw [upd_map fs (by decide)]; exact HJ.out)
    · intro o ho fs W HFi HAf HJ A HA HZ K' HK
      have f17 : fs 17 = true := by cases ho; exact HAf.out ⟨17, .data⟩ (by simp) rfl
      have s17 := HA.out 17 53 (by decide) f17 rfl
      simp only [List.getD_cons_succ, List.getD_cons_zero] at s17
      have f15 : fs 15 = true := by cases ho; exact HAf.out ⟨15, .guard⟩ (by simp) rfl
      have s15 := HA.out 15 51 (by decide) f15 rfl
      simp only [List.getD_cons_succ, List.getD_cons_zero] at s15
      clear HAf HA HZ f17 f15
      cases ho
      go_simp
      exact HK.out _ (by rw [upd_map fs (by decide)]; exact HJ.out)
    · intro o ho fs W HFi HAf HJ A HA HZ K' HK
      have f18 : fs 18 = true := by cases ho; exact HAf.out ⟨18, .data⟩ (by simp) rfl
      have s18 := HA.out 18 54 (by decide) f18 rfl
      simp only [List.getD_cons_succ, List.getD_cons_zero] at s18
      have f15 : fs 15 = true := by cases ho; exact HAf.out ⟨15, .guard⟩ (by simp) rfl
      have s15 := HA.out 15 51 (by decide) f15 rfl
      simp only [List.getD_cons_succ, List.getD_cons_zero] at s15
      clear HAf HA HZ f18 f15
      cases ho
      go_simp
      exact HK.out _ (by rw [upd_map fs (by decide)]; exact HJ.out)
    · intro o ho fs W HFi HAf HJ A HA HZ K' HK
      have f19 : fs 19 = true := by cases ho; exact HAf.out ⟨19, .data⟩ (by simp) rfl
      have s19 := HA.out 19 55 (by decide) f19 rfl
      simp only [List.getD_cons_succ, List.getD_cons_zero] at s19
      have f15 : fs 15 = true := by cases ho; exact HAf.out ⟨15, .chain⟩ (by simp) rfl
      have s15 := HA.out 15 51 (by decide) f15 rfl
      simp only [List.getD_cons_succ, List.getD_cons_zero] at s15
      clear HAf HA HZ f19 f15
      cases ho
      go_simp
      exact HK.out _ (by rw [upd_map fs (by decide)]; exact HJ.out)
    · intro o ho fs W HFi HAf HJ A HA HZ K' HK
      have z1 : A.tmps[1]? = some _ := HZ.out 1 (by decide)
      have f20 : fs 20 = true := by cases ho; exact HAf.out ⟨20, .guard⟩ (by simp) rfl
      have s20 := HA.out 20 56 (by decide) f20 rfl
      simp only [List.getD_cons_succ, List.getD_cons_zero] at s20
      clear HAf HA HZ f20
      cases ho
      go_simp
      exact HK.out _ (by rw [upd_map fs (by decide)]; exact HJ.out)
    · intro o ho fs W HFi HAf HJ A HA HZ K' HK
      have f21 : fs 21 = true := by cases ho; exact HAf.out ⟨21, .data⟩ (by simp) rfl
      have s21 := HA.out 21 57 (by decide) f21 rfl
      simp only [List.getD_cons_succ, List.getD_cons_zero] at s21
      have f20 : fs 20 = true := by cases ho; exact HAf.out ⟨20, .guard⟩ (by simp) rfl
      have s20 := HA.out 20 56 (by decide) f20 rfl
      simp only [List.getD_cons_succ, List.getD_cons_zero] at s20
      clear HAf HA HZ f21 f20
      obtain ⟨P, HP, hP0⟩ := HJ.out
      obtain ⟨c0, c1, c2, c3, -⟩ := four_cells (HP.out.blk 1 rfl)
      cases ho
      go_simp
      exact HK.out _ (by rw [upd_map fs (by decide)]; exact HJ.out)
    · intro o ho fs W HFi HAf HJ A HA HZ K' HK
      have f22 : fs 22 = true := by cases ho; exact HAf.out ⟨22, .data⟩ (by simp) rfl
      have s22 := HA.out 22 58 (by decide) f22 rfl
      simp only [List.getD_cons_succ, List.getD_cons_zero] at s22
      have f20 : fs 20 = true := by cases ho; exact HAf.out ⟨20, .guard⟩ (by simp) rfl
      have s20 := HA.out 20 56 (by decide) f20 rfl
      simp only [List.getD_cons_succ, List.getD_cons_zero] at s20
      clear HAf HA HZ f22 f20
      cases ho
      go_simp
      exact HK.out _ (by rw [upd_map fs (by decide)]; exact HJ.out)
    · intro o ho fs W HFi HAf HJ A HA HZ K' HK
      have f23 : fs 23 = true := by cases ho; exact HAf.out ⟨23, .data⟩ (by simp) rfl
      have s23 := HA.out 23 59 (by decide) f23 rfl
      simp only [List.getD_cons_succ, List.getD_cons_zero] at s23
      have f20 : fs 20 = true := by cases ho; exact HAf.out ⟨20, .guard⟩ (by simp) rfl
      have s20 := HA.out 20 56 (by decide) f20 rfl
      simp only [List.getD_cons_succ, List.getD_cons_zero] at s20
      clear HAf HA HZ f23 f20
      cases ho
      go_simp
      exact HK.out _ (by rw [upd_map fs (by decide)]; exact HJ.out)
    · intro o ho fs W HFi HAf HJ A HA HZ K' HK
      have f24 : fs 24 = true := by cases ho; exact HAf.out ⟨24, .data⟩ (by simp) rfl
      have s24 := HA.out 24 60 (by decide) f24 rfl
      simp only [List.getD_cons_succ, List.getD_cons_zero] at s24
      have f20 : fs 20 = true := by cases ho; exact HAf.out ⟨20, .chain⟩ (by simp) rfl
      have s20 := HA.out 20 56 (by decide) f20 rfl
      simp only [List.getD_cons_succ, List.getD_cons_zero] at s20
      clear HAf HA HZ f24 f20
      cases ho
      go_simp
      exact HK.out _ (by rw [upd_map fs (by decide)]; exact HJ.out)
    · intro o ho fs W HFi HAf HJ A HA HZ K' HK
      have z1 : A.tmps[1]? = some _ := HZ.out 1 (by decide)
      have f25 : fs 25 = true := by cases ho; exact HAf.out ⟨25, .guard⟩ (by simp) rfl
      have s25 := HA.out 25 61 (by decide) f25 rfl
      simp only [List.getD_cons_succ, List.getD_cons_zero] at s25
      clear HAf HA HZ f25
      cases ho
      go_simp
      exact HK.out _ (by rw [upd_map fs (by decide)]; exact HJ.out)
    · intro o ho fs W HFi HAf HJ A HA HZ K' HK
      have f26 : fs 26 = true := by cases ho; exact HAf.out ⟨26, .data⟩ (by simp) rfl
      have s26 := HA.out 26 62 (by decide) f26 rfl
      simp only [List.getD_cons_succ, List.getD_cons_zero] at s26
      have f25 : fs 25 = true := by cases ho; exact HAf.out ⟨25, .guard⟩ (by simp) rfl
      have s25 := HA.out 25 61 (by decide) f25 rfl
      simp only [List.getD_cons_succ, List.getD_cons_zero] at s25
      clear HAf HA HZ f26 f25
      obtain ⟨P, HP, hP0⟩ := HJ.out
      obtain ⟨c0, c1, c2, c3, -⟩ := four_cells (HP.out.blk 1 rfl)
      cases ho
      go_simp
      exact HK.out _ (by rw [upd_map fs (by decide)]; exact HJ.out)
    · intro o ho fs W HFi HAf HJ A HA HZ K' HK
      have f27 : fs 27 = true := by cases ho; exact HAf.out ⟨27, .data⟩ (by simp) rfl
      have s27 := HA.out 27 63 (by decide) f27 rfl
      simp only [List.getD_cons_succ, List.getD_cons_zero] at s27
      have f25 : fs 25 = true := by cases ho; exact HAf.out ⟨25, .guard⟩ (by simp) rfl
      have s25 := HA.out 25 61 (by decide) f25 rfl
      simp only [List.getD_cons_succ, List.getD_cons_zero] at s25
      clear HAf HA HZ f27 f25
      cases ho
      go_simp
      exact HK.out _ (by rw [upd_map fs (by decide)]; exact HJ.out)
    · intro o ho fs W HFi HAf HJ A HA HZ K' HK
      have f28 : fs 28 = true := by cases ho; exact HAf.out ⟨28, .data⟩ (by simp) rfl
      have s28 := HA.out 28 64 (by decide) f28 rfl
      simp only [List.getD_cons_succ, List.getD_cons_zero] at s28
      have f25 : fs 25 = true := by cases ho; exact HAf.out ⟨25, .guard⟩ (by simp) rfl
      have s25 := HA.out 25 61 (by decide) f25 rfl
      simp only [List.getD_cons_succ, List.getD_cons_zero] at s25
      clear HAf HA HZ f28 f25
      cases ho
      go_simp
      exact HK.out _ (by rw [upd_map fs (by decide)]; exact HJ.out)
    · intro o ho fs W HFi HAf HJ A HA HZ K' HK
      have f25 : fs 25 = true := by cases ho; exact HAf.out ⟨25, .data⟩ (by simp) rfl
      have s25 := HA.out 25 61 (by decide) f25 rfl
      simp only [List.getD_cons_succ, List.getD_cons_zero] at s25
      have f29 : fs 29 = true := by cases ho; exact HAf.out ⟨29, .data⟩ (by simp) rfl
      have s29 := HA.out 29 65 (by decide) f29 rfl
      simp only [List.getD_cons_succ, List.getD_cons_zero] at s29
      have f20 : fs 20 = true := by cases ho; exact HAf.out ⟨20, .guard⟩ (by simp) rfl
      have s20 := HA.out 20 56 (by decide) f20 rfl
      simp only [List.getD_cons_succ, List.getD_cons_zero] at s20
      clear HAf HA HZ f25 f29 f20
      cases ho
      go_simp
      exact HK.out _ (by rw [upd_map fs (by decide)]; exact HJ.out)
    · intro o ho fs W HFi HAf HJ A HA HZ K' HK
      have f20 : fs 20 = true := by cases ho; exact HAf.out ⟨20, .data⟩ (by simp) rfl
      have s20 := HA.out 20 56 (by decide) f20 rfl
      simp only [List.getD_cons_succ, List.getD_cons_zero] at s20
      have f30 : fs 30 = true := by cases ho; exact HAf.out ⟨30, .data⟩ (by simp) rfl
      have s30 := HA.out 30 66 (by decide) f30 rfl
      simp only [List.getD_cons_succ, List.getD_cons_zero] at s30
      have f15 : fs 15 = true := by cases ho; exact HAf.out ⟨15, .guard⟩ (by simp) rfl
      have s15 := HA.out 15 51 (by decide) f15 rfl
      simp only [List.getD_cons_succ, List.getD_cons_zero] at s15
      clear HAf HA HZ f20 f30 f15
      cases ho
      go_simp
      exact HK.out _ (by rw [upd_map fs (by decide)]; exact HJ.out)
    · intro o ho fs W HFi HAf HJ A HA HZ K' HK
      have f15 : fs 15 = true := by cases ho; exact HAf.out ⟨15, .data⟩ (by simp) rfl
      have s15 := HA.out 15 51 (by decide) f15 rfl
      simp only [List.getD_cons_succ, List.getD_cons_zero] at s15
      have f31 : fs 31 = true := by cases ho; exact HAf.out ⟨31, .data⟩ (by simp) rfl
      have s31 := HA.out 31 67 (by decide) f31 rfl
      simp only [List.getD_cons_succ, List.getD_cons_zero] at s31
      clear HAf HA HZ f15 f31
      cases ho
      go_simp
      exact HK.out _ (by rw [upd_map fs (by decide)]; exact HJ.out)
  · intro W hJ
    simp only [canon, Act.put, List.getD_cons_succ, List.getD_cons_zero, List.drop_succ_cons, List.drop_zero, List.setIfInBounds_toArray, List.set_cons_zero, List.set_cons_succ]
    obtain ⟨P, HP, -⟩ := hJ
    have HW := Lib.hid (HP.out.base 2 rfl)
    clear HP
    go_wp2_with fail
    go_ret
    exact ⟨rfl, HW.out.below (Nat.le_refl _) (fun _ _ h => h)⟩
set_option maxRecDepth 100000 in
set_option maxHeartbeats 8000000 in
theorem Valid_2us (k : Int) (tx : List UInt8) (n : Nat) (pos : Int) (w : World) (hk : k = 2) (hn : n = 0) (ht : tx ≠ []) (hl : tx.length ≤ 32) (hw : tx.takeWhile namC = tx) (c : UInt8) (hc : ∀ h, (ba tx)[0]'h = c) (h1 : c.toNat = 95) :
    Calls Tryz.prog 18 #[.agg #[.int .i64 k, .string (ba tx), .int .u64 (n : Int), .int .i64 pos]] w fun e w' => e = .returned (.bool true) ∧ Below w.heap.size w w' := by
  subst hn
  have x3 : (k == 3) = false := by simp; omega
  have x1 : (k == 1) = false := by simp; omega
  have x2 : (k == 2) = true := by simp; omega
  have x4 : (k == 4) = false := by simp; omega
  have x5 : (k == 5) = false := by simp; omega
  have x6 : (k == 6) = false := by simp; omega
  clear hk
  have xe : (ba tx).toList.isEmpty = false := by rw [ba_toList]; cases tx with | nil => exact absurd rfl ht | cons c r => rfl
  have s1 : ((ba tx).size : Int) = (tx.length : Int) := by rw [ba_size]
  have xl : (tx.length : Int) ≤ 32 := by omega
  have hks : 0 < (ba tx).size := by rw [ba_size]; cases tx with | nil => exact absurd rfl ht | cons c r => simp
  have hks2 : 0 < tx.length := by rw [ba_size] at hks; exact hks
  clear ht
  have xq : ((ba (tx.takeWhile namC)).toList == (ba tx).toList) = true := by rw [ba_toList, ba_toList]; simpa using hw
  have hc0 : ((ba tx)[0]'hks).toNat = c.toNat := by rw [hc]
  have y95 : ((((ba tx)[0]'hks).toNat : Int) == 95) = true := by simp; omega
  clear hc0 hc h1
  clear hw
  go_enter Tryz.func18, Tryz.ntmps18
  go_upto_region 10 with (fail)
  have HB0 := Lib.hid (show Bq ((w.alloc (.cells #[.int .i64 k, .string (ba tx), .int .u64 ((0 : Nat) : Int), .int .i64 pos] 36 (0, 0))).alloc (.cells #[.string (ba tx), .int .i64 0, .map none] 43 (0, 0))).drew [.blk (w.heap.size + 1) #[.string (ba tx), .int .i64 (((0 : Nat) : Int)), .map none] 43, .blk w.heap.size #[.int .i64 k, .string (ba tx), .int .u64 ((0 : Nat) : Int), .int .i64 pos] 36, .base (fun _ => False) w] from (Bq.box (Bq.box (show Bq w [.base (fun _ => False) w] from ⟨Ch.refl _ _, trivial⟩) _ _ rfl) _ _ (World.size_alloc _ _)).dr)
  refine' wp_region_fix (by kernel_rfl) 33 [some 36, some 37, some 38, some 39, some 40, some 41, some 42, some 43, some 44, some 45, some 46, some 47, some 48, some 49, some 50, some 51, some 52, some 53, some 54, some 55, some 56, some 57, some 58, some 59, some 60, some 61, some 62, some 63, some 64, some 65, some 66, some 67, some 68] [_, _, _, _, _, _, _, _, _, _, _, _, _, _, _, _, _, _, _, _, _, _, _, _, _, _, _, _, _, _, _, _, _] [10] (fun fs W => ∃ P : Nat, Hid (Bq W [.blk (w.heap.size + 1) #[.string (ba tx), .int .i64 ((P : Int)), .map none] 43, .blk w.heap.size #[.int .i64 k, .string (ba tx), .int .u64 ((0 : Nat) : Int), .int .i64 pos] 36, .base (fun _ => False) w]) ∧ (fs = [false] → P = 0)) (by kernel_rfl) (by decide) (by kernel_rfl) (by decide) (by rfl) (by decide) (⟨0, HB0, fun _ => rfl⟩) ?_ ?_
  rotate_left 33
  · refine all_cons 0 ?_ (all_cons 1 ?_ (all_cons 2 ?_ (all_cons 3 ?_ (all_cons 4 ?_ (all_cons 5 ?_ (all_cons 6 ?_ (all_cons 7 ?_ (all_cons 8 ?_ (all_cons 9 ?_ (all_cons 10 ?_ (all_cons 11 ?_ (all_cons 12 ?_ (all_cons 13 ?_ (all_cons 14 ?_ (all_cons 15 ?_ (all_cons 16 ?_ (all_cons 17 ?_ (all_cons 18 ?_ (all_cons 19 ?_ (all_cons 20 ?_ (all_cons 21 ?_ (all_cons 22 ?_ (all_cons 23 ?_ (all_cons 24 ?_ (all_cons 25 ?_ (all_cons 26 ?_ (all_cons 27 ?_ (all_cons 28 ?_ (all_cons 29 ?_ (all_cons 30 ?_ (all_cons 31 ?_ (all_cons 32 ?_ (all_done 33)))))))))))))))))))))))))))))))))
    · intro o ho fs W HFi HAf HJ A HA HZ K' HK
      have z1 : A.tmps[1]? = some _ := HZ.out 1 (by decide)
      clear HAf HA HZ
      cases ho
      go_simp
      exact HK.out _ (by rw [upd_map fs (by decide)]; exact HJ.out)
    · intro o ho fs W HFi HAf HJ A HA HZ K' HK
      have f0 : fs 0 = true := by cases ho; exact HAf.out ⟨0, .data⟩ (by simp) rfl
      have s0 := HA.out 0 36 (by decide) f0 rfl
      simp only [List.getD_cons_zero] at s0
      clear HAf HA HZ f0
      obtain ⟨P, HP, hP0⟩ := HJ.out
      obtain ⟨c0, c1, c2, c3, -⟩ := four_cells (HP.out.blk 1 rfl)
      cases ho
      go_simp
      exact HK.out _ (by rw [upd_map fs (by decide)]; exact HJ.out)
    · intro o ho fs W HFi HAf HJ A HA HZ K' HK
      have f1 : fs 1 = true := by cases ho; exact HAf.out ⟨1, .data⟩ (by simp) rfl
      have s1 := HA.out 1 37 (by decide) f1 rfl
      simp only [List.getD_cons_succ, List.getD_cons_zero] at s1
      clear HAf HA HZ f1
      cases ho
      go_simp
      exact HK.out _ (by rw [upd_map fs (by decide)]; exact HJ.out)
    · intro o ho fs W HFi HAf HJ A HA HZ K' HK
      have f2 : fs 2 = true := by cases ho; exact HAf.out ⟨2, .data⟩ (by simp) rfl
      have s2 := HA.out 2 38 (by decide) f2 rfl
      simp only [List.getD_cons_succ, List.getD_cons_zero] at s2
      clear HAf HA HZ f2
      cases ho
      go_simp
      exact HK.out _ (by rw [upd_map fs (by decide)]; exact HJ.out)
    · intro o ho fs W HFi HAf HJ A HA HZ K' HK
      have z1 : A.tmps[1]? = some _ := HZ.out 1 (by decide)
      have f3 : fs 3 = true := by cases ho; exact HAf.out ⟨3, .guard⟩ (by simp) rfl
      have s3 := HA.out 3 39 (by decide) f3 rfl
      simp only [List.getD_cons_succ, List.getD_cons_zero] at s3
      clear HAf HA HZ f3
      cases ho
      go_simp
      exact HK.out _ (by rw [upd_map fs (by decide)]; exact HJ.out)
    · intro o ho fs W HFi HAf HJ A HA HZ K' HK
      have f4 : fs 4 = true := by cases ho; exact HAf.out ⟨4, .data⟩ (by simp) rfl
      have s4 := HA.out 4 40 (by decide) f4 rfl
      simp only [List.getD_cons_succ, List.getD_cons_zero] at s4
      have f3 : fs 3 = true := by cases ho; exact HAf.out ⟨3, .guard⟩ (by simp) rfl
      have s3 := HA.out 3 39 (by decide) f3 rfl
      simp only [List.getD_cons_succ, List.getD_cons_zero] at s3
      clear HAf HA HZ f4 f3
      obtain ⟨P, HP, hP0⟩ := HJ.out
      obtain ⟨c0, c1, c2, c3, -⟩ := four_cells (HP.out.blk 1 rfl)
      cases ho
      go_simp
      exact HK.out _ (by rw [upd_map fs (by decide)]; exact HJ.out)
    · intro o ho fs W HFi HAf HJ A HA HZ K' HK
      have f5 : fs 5 = true := by cases ho; exact HAf.out ⟨5, .data⟩ (by simp) rfl
      have s5 := HA.out 5 41 (by decide) f5 rfl
      simp only [List.getD_cons_succ, List.getD_cons_zero] at s5
      have f3 : fs 3 = true := by cases ho; exact HAf.out ⟨3, .guard⟩ (by simp) rfl
      have s3 := HA.out 3 39 (by decide) f3 rfl
      simp only [List.getD_cons_succ, List.getD_cons_zero] at s3
      clear HAf HA HZ f5 f3
      cases ho
      go_simp
      exact HK.out _ (by rw [upd_map fs (by decide)]; exact HJ.out)
    · intro o ho fs W HFi HAf HJ A HA HZ K' HK
      have f6 : fs 6 = true := by cases ho; exact HAf.out ⟨6, .data⟩ (by simp) rfl
      have s6 := HA.out 6 42 (by decide) f6 rfl
      simp only [List.getD_cons_succ, List.getD_cons_zero] at s6
      have f3 : fs 3 = true := by cases ho; exact HAf.out ⟨3, .guard⟩ (by simp) rfl
      have s3 := HA.out 3 39 (by decide) f3 rfl
      simp only [List.getD_cons_succ, List.getD_cons_zero] at s3
      clear HAf HA HZ f6 f3
      cases ho
      go_simp
      exact HK.out _ (by rw [upd_map fs (by decide)]; exact HJ.out)
    · intro o ho fs W HFi HAf HJ A HA HZ K' HK
      have f3 : fs 3 = true := by cases ho; exact HAf.out ⟨3, .data⟩ (by simp) rfl
      have s3 := HA.out 3 39 (by decide) f3 rfl
      simp only [List.getD_cons_succ, List.getD_cons_zero] at s3
      have f7 : fs 7 = true := by cases ho; exact HAf.out ⟨7, .data⟩ (by simp) rfl
      have s7 := HA.out 7 43 (by decide) f7 rfl
      simp only [List.getD_cons_succ, List.getD_cons_zero] at s7
      clear HAf HA HZ f3 f7
      cases ho
      go_simp
      exact HK.out _ (by rw [upd_map fs (by decide)]; exact HJ.out)
    · intro o ho fs W HFi HAf HJ A HA HZ K' HK
      have f8 : fs 8 = true := by cases ho; exact HAf.out ⟨8, .data⟩ (by simp) rfl
      have s8 := HA.out 8 44 (by decide) f8 rfl
      simp only [List.getD_cons_succ, List.getD_cons_zero] at s8
      clear HAf HA HZ f8
      cases ho
      go_simp
      exact HK.out _ (by rw [upd_map fs (by decide)]; exact HJ.out)
    · intro o ho fs W HFi HAf HJ A HA HZ K' HK
      have z3 : A.tmps[3]? = some _ := HZ.out 3 (by decide)
      have f9 : fs 9 = true := by cases ho; exact HAf.out ⟨9, .chain⟩ (by simp) rfl
      have s9 := HA.out 9 45 (by decide) f9 rfl
      simp only [List.getD_cons_succ, List.getD_cons_zero] at s9
      clear HAf HA HZ f9
      cases ho
      have hfi := HFi.out
      obtain ⟨P, HP, hP0⟩ := HJ.out
      obtain rfl : P = 0 := hP0 (by rw [List.map_singleton, hfi])
      clear hP0
      go_simp
      refine (run_t _ namC named_t (w.heap.size + 1) tx 0 (.map none) W (HP.out.blk 0 rfl) (by omega) (Nat.zero_le _)).mono ?_
      rintro e w' ⟨rfl, hr, ho⟩
      rw [List.drop_zero] at *
      exact HK.out _ ⟨_, Lib.hid (HP.out.call 0 ho hr (by refine ⟨?_, ?_, trivial⟩ <;> (simp only [Fq.apart]; first | omega | (intro b h1 h2; omega) | (intro b h1; omega) | (intro b h1 h2 h3; omega)))), fun h => by rw [List.map_singleton, upd_at] at h; cases h⟩
    · intro o ho fs W HFi HAf HJ A HA HZ K' HK
      have z1 : A.tmps[1]? = some _ := HZ.out 1 (by decide)
      have f9 : fs 9 = true := by cases ho; exact HAf.out ⟨9, .guard⟩ (by simp) rfl
      have s9 := HA.out 9 45 (by decide) f9 rfl
      simp only [List.getD_cons_succ, List.getD_cons_zero] at s9
      clear HAf HA HZ f9
      cases ho
      go_simp
      exact HK.out _ (by rw [upd_map fs (by decide)]; exact HJ.out)
    · intro o ho fs W HFi HAf HJ A HA HZ K' HK
      have f11 : fs 11 = true := by cases ho; exact HAf.out ⟨11, .data⟩ (by simp) rfl
      have s11 := HA.out 11 47 (by decide) f11 rfl
      simp only [List.getD_cons_succ, List.getD_cons_zero] at s11
      have f9 : fs 9 = true := by cases ho; exact HAf.out ⟨9, .guard⟩ (by simp) rfl
      have s9 := HA.out 9 45 (by decide) f9 rfl
      simp only [List.getD_cons_succ, List.getD_cons_zero] at s9
      clear HAf HA HZ f11 f9
      obtain ⟨P, HP, hP0⟩ := HJ.out
      obtain ⟨c0, c1, c2, c3, -⟩ := four_cells (HP.out.blk 1 rfl)
      cases ho
      go_simp
      exact HK.out _ (by rw [upd_map fs (by decide)]; exact HJ.out)
    · intro o ho fs W HFi HAf HJ A HA HZ K' HK
      have f10 : fs 10 = true := by cases ho; exact HAf.out ⟨10, .data⟩ (by simp) rfl
      have s10 := HA.out 10 46 (by decide) f10 rfl
      simp only [List.getD_cons_succ, List.getD_cons_zero] at s10
      have f12 : fs 12 = true := by cases ho; exact HAf.out ⟨12, .data⟩ (by simp) rfl
      have s12 := HA.out 12 48 (by decide) f12 rfl
      simp only [List.getD_cons_succ, List.getD_cons_zero] at s12
      have f9 : fs 9 = true := by cases ho; exact HAf.out ⟨9, .guard⟩ (by simp) rfl
      have s9 := HA.out 9 45 (by decide) f9 rfl
      simp only [List.getD_cons_succ, List.getD_cons_zero] at s9
      clear HAf HA HZ f10 f12 f9
      cases ho
      go_simp
      exact HK.out _ (by rw [upd_map fs (by decide)]; exact HJ.out)
    · intro o ho fs W HFi HAf HJ A HA HZ K' HK
      have f9 : fs 9 = true := by cases ho; exact HAf.out ⟨9, .data⟩ (by simp) rfl
      have s9 := HA.out 9 45 (by decide) f9 rfl
      simp only [List.getD_cons_succ, List.getD_cons_zero] at s9
      have f13 : fs 13 = true := by cases ho; exact HAf.out ⟨13, .data⟩ (by simp) rfl
      have s13 := HA.out 13 49 (by decide) f13 rfl
      simp only [List.getD_cons_succ, List.getD_cons_zero] at s13
      clear HAf HA HZ f9 f13
      cases ho
      go_simp
      exact HK.out _ (by rw [upd_map fs (by decide)]; exact HJ.out)
    · intro o ho fs W HFi HAf HJ A HA HZ K' HK
      have f14 : fs 14 = true := by cases ho; exact HAf.out ⟨14, .data⟩ (by simp) rfl
      have s14 := HA.out 14 50 (by decide) f14 rfl
      simp only [List.getD_cons_succ, List.getD_cons_zero] at s14
      clear HAf HA HZ f14
      cases ho
      go_simp
      exact HK.out _ (by rw [upd_map fs (by decide)]; exact HJ.out)
    · intro o ho fs W HFi HAf HJ A HA HZ K' HK
      have z1 : A.tmps[1]? = some _ := HZ.out 1 (by decide)
      have f15 : fs 15 = true := by cases ho; exact HAf.out ⟨15, .guard⟩ (by simp) rfl
      have s15 := HA.out 15 51 (by decide) f15 rfl
      simp only [List.getD_cons_succ, List.getD_cons_zero] at s15
      clear HAf HA HZ f15
      cases ho
      go_simp
      exact HK.out _ (by rw [upd_map fs (by decide)]; exact HJ.out)
    · intro o ho fs W HFi HAf HJ A HA HZ K' HK
      have f16 : fs 16 = true := by cases ho; exact HAf.out ⟨16, .data⟩ (by simp) rfl
      have s16 := HA.out 16 52 (by decide) f16 rfl
      simp only [List.getD_cons_succ, List.getD_cons_zero] at s16
      have f15 : fs 15 = true := by cases ho; exact HAf.out ⟨15, .guard⟩ (by simp) rfl
      have s15 := HA.out 15 51 (by decide) f15 rfl
      simp only [List.getD_cons_succ, List.getD_cons_zero] at s15
      clear HAf HA HZ f16 f15
      obtain ⟨P, HP, hP0⟩ := HJ.out
      obtain ⟨c0, c1, c2, c3, -⟩ := four_cells (HP.out.blk 1 rfl)
      cases ho
      go_simp
      exact HK.out _ (by rw [upd_map fs (by decide)]; exact HJ.out)
    · intro o ho fs W HFi HAf HJ A HA HZ K' HK
      have f17 : fs 17 = true := by cases ho; exact HAf.out ⟨17, .data⟩ (by simp) rfl
      have s17 := HA.out 17 53 (by decide) f17 rfl
      simp only [List.getD_cons_succ, List.getD_cons_zero] at s17
      have f15 : fs 15 = true := by cases ho; exact HAf.out ⟨15, .guard⟩ (by simp) rfl
      have s15 := HA.out 15 51 (by decide) f15 rfl
      simp only [List.getD_cons_succ, List.getD_cons_zero] at s15
      clear HAf HA HZ f17 f15
      cases ho
      go_simp
      exact HK.out _ (by rw [upd_map fs (by decide)]; exact HJ.out)
    · intro o ho fs W HFi HAf HJ A HA HZ K' HK
      have f18 : fs 18 = true := by cases ho; exact HAf.out ⟨18, .data⟩ (by simp) rfl
      have s18 := HA.out 18 54 (by decide) f18 rfl
      simp only [List.getD_cons_succ, List.getD_cons_zero] at s18
      have f15 : fs 15 = true := by cases ho; exact HAf.out ⟨15, .guard⟩ (by simp) rfl
      have s15 := HA.out 15 51 (by decide) f15 rfl
      simp only [List.getD_cons_succ, List.getD_cons_zero] at s15
      clear HAf HA HZ f18 f15
      cases ho
      go_simp
      exact HK.out _ (by rw [upd_map fs (by decide)]; exact HJ.out)
    · intro o ho fs W HFi HAf HJ A HA HZ K' HK
      have f19 : fs 19 = true := by cases ho; exact HAf.out ⟨19, .data⟩ (by simp) rfl
      have s19 := HA.out 19 55 (by decide) f19 rfl
      simp only [List.getD_cons_succ, List.getD_cons_zero] at s19
      have f15 : fs 15 = true := by cases ho; exact HAf.out ⟨15, .chain⟩ (by simp) rfl
      have s15 := HA.out 15 51 (by decide) f15 rfl
      simp only [List.getD_cons_succ, List.getD_cons_zero] at s15
      clear HAf HA HZ f19 f15
      cases ho
      go_simp
      exact HK.out _ (by rw [upd_map fs (by decide)]; exact HJ.out)
    · intro o ho fs W HFi HAf HJ A HA HZ K' HK
      have z1 : A.tmps[1]? = some _ := HZ.out 1 (by decide)
      have f20 : fs 20 = true := by cases ho; exact HAf.out ⟨20, .guard⟩ (by simp) rfl
      have s20 := HA.out 20 56 (by decide) f20 rfl
      simp only [List.getD_cons_succ, List.getD_cons_zero] at s20
      clear HAf HA HZ f20
      cases ho
      go_simp
      exact HK.out _ (by rw [upd_map fs (by decide)]; exact HJ.out)
    · intro o ho fs W HFi HAf HJ A HA HZ K' HK
      have f21 : fs 21 = true := by cases ho; exact HAf.out ⟨21, .data⟩ (by simp) rfl
      have s21 := HA.out 21 57 (by decide) f21 rfl
      simp only [List.getD_cons_succ, List.getD_cons_zero] at s21
      have f20 : fs 20 = true := by cases ho; exact HAf.out ⟨20, .guard⟩ (by simp) rfl
      have s20 := HA.out 20 56 (by decide) f20 rfl
      simp only [List.getD_cons_succ, List.getD_cons_zero] at s20
      clear HAf HA HZ f21 f20
      obtain ⟨P, HP, hP0⟩ := HJ.out
      obtain ⟨c0, c1, c2, c3, -⟩ := four_cells (HP.out.blk 1 rfl)
      cases ho
      go_simp
      exact HK.out _ (by rw [upd_map fs (by decide)]; exact HJ.out)
    · intro o ho fs W HFi HAf HJ A HA HZ K' HK
      have f22 : fs 22 = true := by cases ho; exact HAf.out ⟨22, .data⟩ (by simp) rfl
      have s22 := HA.out 22 58 (by decide) f22 rfl
      simp only [List.getD_cons_succ, List.getD_cons_zero] at s22
      have f20 : fs 20 = true := by cases ho; exact HAf.out ⟨20, .guard⟩ (by simp) rfl
      have s20 := HA.out 20 56 (by decide) f20 rfl
      simp only [List.getD_cons_succ, List.getD_cons_zero] at s20
      clear HAf HA HZ f22 f20
      cases ho
      go_simp
      exact HK.out _ (by rw [upd_map fs (by decide)]; exact HJ.out)
    · intro o ho fs W HFi HAf HJ A HA HZ K' HK
      have f23 : fs 23 = true := by cases ho; exact HAf.out ⟨23, .data⟩ (by simp) rfl
      have s23 := HA.out 23 59 (by decide) f23 rfl
      simp only [List.getD_cons_succ, List.getD_cons_zero] at s23
      have f20 : fs 20 = true := by cases ho; exact HAf.out ⟨20, .guard⟩ (by simp) rfl
      have s20 := HA.out 20 56 (by decide) f20 rfl
      simp only [List.getD_cons_succ, List.getD_cons_zero] at s20
      clear HAf HA HZ f23 f20
      cases ho
      go_simp
      exact HK.out _ (by rw [upd_map fs (by decide)]; exact HJ.out)
    · intro o ho fs W HFi HAf HJ A HA HZ K' HK
      have f24 : fs 24 = true := by cases ho; exact HAf.out ⟨24, .data⟩ (by simp) rfl
      have s24 := HA.out 24 60 (by decide) f24 rfl
      simp only [List.getD_cons_succ, List.getD_cons_zero] at s24
      have f20 : fs 20 = true := by cases ho; exact HAf.out ⟨20, .chain⟩ (by simp) rfl
      have s20 := HA.out 20 56 (by decide) f20 rfl
      simp only [List.getD_cons_succ, List.getD_cons_zero] at s20
      clear HAf HA HZ f24 f20
      cases ho
      go_simp
      exact HK.out _ (by rw [upd_map fs (by decide)]; exact HJ.out)
    · intro o ho fs W HFi HAf HJ A HA HZ K' HK
      have z1 : A.tmps[1]? = some _ := HZ.out 1 (by decide)
      have f25 : fs 25 = true := by cases ho; exact HAf.out ⟨25, .guard⟩ (by simp) rfl
      have s25 := HA.out 25 61 (by decide) f25 rfl
      simp only [List.getD_cons_succ, List.getD_cons_zero] at s25
      clear HAf HA HZ f25
      cases ho
      go_simp
      exact HK.out _ (by rw [upd_map fs (by decide)]; exact HJ.out)
    · intro o ho fs W HFi HAf HJ A HA HZ K' HK
      have f26 : fs 26 = true := by cases ho; exact HAf.out ⟨26, .data⟩ (by simp) rfl
      have s26 := HA.out 26 62 (by decide) f26 rfl
      simp only [List.getD_cons_succ, List.getD_cons_zero] at s26
      have f25 : fs 25 = true := by cases ho; exact HAf.out ⟨25, .guard⟩ (by simp) rfl
      have s25 := HA.out 25 61 (by decide) f25 rfl
      simp only [List.getD_cons_succ, List.getD_cons_zero] at s25
      clear HAf HA HZ f26 f25
      obtain ⟨P, HP, hP0⟩ := HJ.out
      obtain ⟨c0, c1, c2, c3, -⟩ := four_cells (HP.out.blk 1 rfl)
      cases ho
      go_simp
      exact HK.out _ (by rw [upd_map fs (by decide)]; exact HJ.out)
    · intro o ho fs W HFi HAf HJ A HA HZ K' HK
      have f27 : fs 27 = true := by cases ho; exact HAf.out ⟨27, .data⟩ (by simp) rfl
      have s27 := HA.out 27 63 (by decide) f27 rfl
      simp only [List.getD_cons_succ, List.getD_cons_zero] at s27
      have f25 : fs 25 = true := by cases ho; exact HAf.out ⟨25, .guard⟩ (by simp) rfl
      have s25 := HA.out 25 61 (by decide) f25 rfl
      simp only [List.getD_cons_succ, List.getD_cons_zero] at s25
      clear HAf HA HZ f27 f25
      cases ho
      go_simp
      exact HK.out _ (by rw [upd_map fs (by decide)]; exact HJ.out)
    · intro o ho fs W HFi HAf HJ A HA HZ K' HK
      have f28 : fs 28 = true := by cases ho; exact HAf.out ⟨28, .data⟩ (by simp) rfl
      have s28 := HA.out 28 64 (by decide) f28 rfl
      simp only [List.getD_cons_succ, List.getD_cons_zero] at s28
      have f25 : fs 25 = true := by cases ho; exact HAf.out ⟨25, .guard⟩ (by simp) rfl
      have s25 := HA.out 25 61 (by decide) f25 rfl
      simp only [List.getD_cons_succ, List.getD_cons_zero] at s25
      clear HAf HA HZ f28 f25
      cases ho
      go_simp
      exact HK.out _ (by rw [upd_map fs (by decide)]; exact HJ.out)
    · intro o ho fs W HFi HAf HJ A HA HZ K' HK
      have f25 : fs 25 = true := by cases ho; exact HAf.out ⟨25, .data⟩ (by simp) rfl
      have s25 := HA.out 25 61 (by decide) f25 rfl
      simp only [List.getD_cons_succ, List.getD_cons_zero] at s25
      have f29 : fs 29 = true := by cases ho; exact HAf.out ⟨29, .data⟩ (by simp) rfl
      have s29 := HA.out 29 65 (by decide) f29 rfl
      simp only [List.getD_cons_succ, List.getD_cons_zero] at s29
      have f20 : fs 20 = true := by cases ho; exact HAf.out ⟨20, .guard⟩ (by simp) rfl
      have s20 := HA.out 20 56 (by decide) f20 rfl
      simp only [List.getD_cons_succ, List.getD_cons_zero] at s20
      clear HAf HA HZ f25 f29 f20
      cases ho
      go_simp
      exact HK.out _ (by rw [upd_map fs (by decide)]; exact HJ.out)
    · intro o ho fs W HFi HAf HJ A HA HZ K' HK
      have f20 : fs 20 = true := by cases ho; exact HAf.out ⟨20, .data⟩ (by simp) rfl
      have s20 := HA.out 20 56 (by decide) f20 rfl
      simp only [List.getD_cons_succ, List.getD_cons_zero] at s20
      have f30 : fs 30 = true := by cases ho; exact HAf.out ⟨30, .data⟩ (by simp) rfl
      have s30 := HA.out 30 66 (by decide) f30 rfl
      simp only [List.getD_cons_succ, List.getD_cons_zero] at s30
      have f15 : fs 15 = true := by cases ho; exact HAf.out ⟨15, .guard⟩ (by simp) rfl
      have s15 := HA.out 15 51 (by decide) f15 rfl
      simp only [List.getD_cons_succ, List.getD_cons_zero] at s15
      clear HAf HA HZ f20 f30 f15
      cases ho
      go_simp
      exact HK.out _ (by rw [upd_map fs (by decide)]; exact HJ.out)
    · intro o ho fs W HFi HAf HJ A HA HZ K' HK
      have f15 : fs 15 = true := by cases ho; exact HAf.out ⟨15, .data⟩ (by simp) rfl
      have s15 := HA.out 15 51 (by decide) f15 rfl
      simp only [List.getD_cons_succ, List.getD_cons_zero] at s15
      have f31 : fs 31 = true := by cases ho; exact HAf.out ⟨31, .data⟩ (by simp) rfl
      have s31 := HA.out 31 67 (by decide) f31 rfl
      simp only [List.getD_cons_succ, List.getD_cons_zero] at s31
      clear HAf HA HZ f15 f31
      cases ho
      go_simp
      exact HK.out _ (by rw [upd_map fs (by decide)]; exact HJ.out)
  · intro W hJ
    simp only [canon, Act.put, List.getD_cons_succ, List.getD_cons_zero, List.drop_succ_cons, List.drop_zero, List.setIfInBounds_toArray, List.set_cons_zero, List.set_cons_succ]
    obtain ⟨P, HP, -⟩ := hJ
    have HW := Lib.hid (HP.out.base 2 rfl)
    clear HP
    go_wp2_with fail
    go_ret
    exact ⟨rfl, HW.out.below (Nat.le_refl _) (fun _ _ h => h)⟩
set_option maxRecDepth 100000 in
set_option maxHeartbeats 8000000 in
theorem Valid_2lo (k : Int) (tx : List UInt8) (n : Nat) (pos : Int) (w : World) (hk : k = 2) (hn : n = 0) (ht : tx ≠ []) (hl : tx.length ≤ 32) (hw : tx.takeWhile namC = tx) (c : UInt8) (hc : ∀ h, (ba tx)[0]'h = c) (h1 : c.toNat < 65) :
    Calls Tryz.prog 18 #[.agg #[.int .i64 k, .string (ba tx), .int .u64 (n : Int), .int .i64 pos]] w fun e w' => e = .returned (.bool false) ∧ Below w.heap.size w w' := by
  subst hn
  have x3 : (k == 3) = false := by simp; omega
  have x1 : (k == 1) = false := by simp; omega
  have x2 : (k == 2) = true := by simp; omega
  have x4 : (k == 4) = false := by simp; omega
  have x5 : (k == 5) = false := by simp; omega
  have x6 : (k == 6) = false := by simp; omega
  clear hk
  have xe : (ba tx).toList.isEmpty = false := by rw [ba_toList]; cases tx with | nil => exact absurd rfl ht | cons c r => rfl
  have s1 : ((ba tx).size : Int) = (tx.length : Int) := by rw [ba_size]
  have xl : (tx.length : Int) ≤ 32 := by omega
  have hks : 0 < (ba tx).size := by rw [ba_size]; cases tx with | nil => exact absurd rfl ht | cons c r => simp
  have hks2 : 0 < tx.length := by rw [ba_size] at hks; exact hks
  clear ht
  have xq : ((ba (tx.takeWhile namC)).toList == (ba tx).toList) = true := by rw [ba_toList, ba_toList]; simpa using hw
  have hc0 : ((ba tx)[0]'hks).toNat = c.toNat := by rw [hc]
  have y95 : ((((ba tx)[0]'hks).toNat : Int) == 95) = false := by simp; omega
  have y65 : ¬ (65 : Int) ≤ (((ba tx)[0]'hks).toNat : Int) := by omega
  clear hc0 hc h1
  clear hw
  go_enter Tryz.func18, Tryz.ntmps18
  go_upto_region 10 with (fail)
  have HB0 := Lib.hid (show Bq ((w.alloc (.cells #[.int .i64 k, .string (ba tx), .int .u64 ((0 : Nat) : Int), .int .i64 pos] 36 (0, 0))).alloc (.cells #[.string (ba tx), .int .i64 0, .map none] 43 (0, 0))).drew [.blk (w.heap.size + 1) #[.string (ba tx), .int .i64 (((0 : Nat) : Int)), .map none] 43, .blk w.heap.size #[.int .i64 k, .string (ba tx), .int .u64 ((0 : Nat) : Int), .int .i64 pos] 36, .base (fun _ => False) w] from (Bq.box (Bq.box (show Bq w [.base (fun _ => False) w] from ⟨Ch.refl _ _, trivial⟩) _ _ rfl) _ _ (World.size_alloc _ _)).dr)
  refine' wp_region_fix (by kernel_rfl) 33 [some 36, some 37, some 38, some 39, some 40, some 41, some 42, some 43, some 44, some 45, some 46, some 47, some 48, some 49, some 50, some 51, some 52, some 53, some 54, some 55, some 56, some 57, some 58, some 59, some 60, some 61, some 62, some 63, some 64, some 65, some 66, some 67, some 68] [_, _, _, _, _, _, _, _, _, _, _, _, _, _, _, _, _, _, _, _, _, _, _, _, _, _, _, _, _, _, _, _, _] [10] (fun fs W => ∃ P : Nat, Hid (Bq W [.blk (w.heap.size + 1) #[.string (ba tx), .int .i64 ((P : Int)), .map none] 43, .blk w.heap.size #[.int .i64 k, .string (ba tx), .int .u64 ((0 : Nat) : Int), .int .i64 pos] 36, .base (fun _ => False) w]) ∧ (fs = [false] → P = 0)) (by kernel_rfl) (by decide) (by kernel_rfl) (by decide) (by rfl) (by decide) (⟨0, HB0, fun _ => rfl⟩) ?_ ?_
  rotate_left 33
  · refine all_cons 0 ?_ (all_cons 1 ?_ (all_cons 2 ?_ (all_cons 3 ?_ (all_cons 4 ?_ (all_cons 5 ?_ (all_cons 6 ?_ (all_cons 7 ?_ (all_cons 8 ?_ (all_cons 9 ?_ (all_cons 10 ?_ (all_cons 11 ?_ (all_cons 12 ?_ (all_cons 13 ?_ (all_cons 14 ?_ (all_cons 15 ?_ (all_cons 16 ?_ (all_cons 17 ?_ (all_cons 18 ?_ (all_cons 19 ?_ (all_cons 20 ?_ (all_cons 21 ?_ (all_cons 22 ?_ (all_cons 23 ?_ (all_cons 24 ?_ (all_cons 25 ?_ (all_cons 26 ?_ (all_cons 27 ?_ (all_cons 28 ?_ (all_cons 29 ?_ (all_cons 30 ?_ (all_cons 31 ?_ (all_cons 32 ?_ (all_done 33)))))))))))))))))))))))))))))))))
    · intro o ho fs W HFi HAf HJ A HA HZ K' HK
      have z1 : A.tmps[1]? = some _ := HZ.out 1 (by decide)
      clear HAf HA HZ
      cases ho
      go_simp
      exact HK.out _ (by rw [upd_map fs (by decide)]; exact HJ.out)
    · intro o ho fs W HFi HAf HJ A HA HZ K' HK
      have f0 : fs 0 = true := by cases ho; exact HAf.out ⟨0, .data⟩ (by simp) rfl
      have s0 := HA.out 0 36 (by decide) f0 rfl
      simp only [List.getD_cons_zero] at s0
      clear HAf HA HZ f0
      obtain ⟨P, HP, hP0⟩ := HJ.out
      obtain ⟨c0, c1, c2, c3, -⟩ := four_cells (HP.out.blk 1 rfl)
      cases ho
      go_simp
      exact HK.out _ (by rw [upd_map fs (by decide)]; exact HJ.out)
    · intro o ho fs W HFi HAf HJ A HA HZ K' HK
      have f1 : fs 1 = true := by cases ho; exact HAf.out ⟨1, .data⟩ (by simp) rfl
      have s1 := HA.out 1 37 (by decide) f1 rfl
      simp only [List.getD_cons_succ, List.getD_cons_zero] at s1
      clear HAf HA HZ f1
      cases ho
      go_simp
      exact HK.out _ (by rw [upd_map fs (by decide)]; exact HJ.out)
    · intro o ho fs W HFi HAf HJ A HA HZ K' HK
      have f2 : fs 2 = true := by cases ho; exact HAf.out ⟨2, .data⟩ (by simp) rfl
      have s2 := HA.out 2 38 (by decide) f2 rfl
      simp only [List.getD_cons_succ, List.getD_cons_zero] at s2
      clear HAf HA HZ f2
      cases ho
      go_simp
      exact HK.out _ (by rw [upd_map fs (by decide)]; exact HJ.out)
    · intro o ho fs W HFi HAf HJ A HA HZ K' HK
      have z1 : A.tmps[1]? = some _ := HZ.out 1 (by decide)
      have f3 : fs 3 = true := by cases ho; exact HAf.out ⟨3, .guard⟩ (by simp) rfl
      have s3 := HA.out 3 39 (by decide) f3 rfl
      simp only [List.getD_cons_succ, List.getD_cons_zero] at s3
      clear HAf HA HZ f3
      cases ho
      go_simp
      exact HK.out _ (by rw [upd_map fs (by decide)]; exact HJ.out)
    · intro o ho fs W HFi HAf HJ A HA HZ K' HK
      have f4 : fs 4 = true := by cases ho; exact HAf.out ⟨4, .data⟩ (by simp) rfl
      have s4 := HA.out 4 40 (by decide) f4 rfl
      simp only [List.getD_cons_succ, List.getD_cons_zero] at s4
      have f3 : fs 3 = true := by cases ho; exact HAf.out ⟨3, .guard⟩ (by simp) rfl
      have s3 := HA.out 3 39 (by decide) f3 rfl
      simp only [List.getD_cons_succ, List.getD_cons_zero] at s3
      clear HAf HA HZ f4 f3
      obtain ⟨P, HP, hP0⟩ := HJ.out
      obtain ⟨c0, c1, c2, c3, -⟩ := four_cells (HP.out.blk 1 rfl)
      cases ho
      go_simp
      exact HK.out _ (by rw [upd_map fs (by decide)]; exact HJ.out)
    · intro o ho fs W HFi HAf HJ A HA HZ K' HK
      have f5 : fs 5 = true := by cases ho; exact HAf.out ⟨5, .data⟩ (by simp) rfl
      have s5 := HA.out 5 41 (by decide) f5 rfl
      simp only [List.getD_cons_succ, List.getD_cons_zero] at s5
      have f3 : fs 3 = true := by cases ho; exact HAf.out ⟨3, .guard⟩ (by simp) rfl
      have s3 := HA.out 3 39 (by decide) f3 rfl
      simp only [List.getD_cons_succ, List.getD_cons_zero] at s3
      clear HAf HA HZ f5 f3
      cases ho
      go_simp
      exact HK.out _ (by rw [upd_map fs (by decide)]; exact HJ.out)
    · intro o ho fs W HFi HAf HJ A HA HZ K' HK
      have f6 : fs 6 = true := by cases ho; exact HAf.out ⟨6, .data⟩ (by simp) rfl
      have s6 := HA.out 6 42 (by decide) f6 rfl
      simp only [List.getD_cons_succ, List.getD_cons_zero] at s6
      have f3 : fs 3 = true := by cases ho; exact HAf.out ⟨3, .guard⟩ (by simp) rfl
      have s3 := HA.out 3 39 (by decide) f3 rfl
      simp only [List.getD_cons_succ, List.getD_cons_zero] at s3
      clear HAf HA HZ f6 f3
      cases ho
      go_simp
      exact HK.out _ (by rw [upd_map fs (by decide)]; exact HJ.out)
    · intro o ho fs W HFi HAf HJ A HA HZ K' HK
      have f3 : fs 3 = true := by cases ho; exact HAf.out ⟨3, .data⟩ (by simp) rfl
      have s3 := HA.out 3 39 (by decide) f3 rfl
      simp only [List.getD_cons_succ, List.getD_cons_zero] at s3
      have f7 : fs 7 = true := by cases ho; exact HAf.out ⟨7, .data⟩ (by simp) rfl
      have s7 := HA.out 7 43 (by decide) f7 rfl
      simp only [List.getD_cons_succ, List.getD_cons_zero] at s7
      clear HAf HA HZ f3 f7
      cases ho
      go_simp
      exact HK.out _ (by rw [upd_map fs (by decide)]; exact HJ.out)
    · intro o ho fs W HFi HAf HJ A HA HZ K' HK
      have f8 : fs 8 = true := by cases ho; exact HAf.out ⟨8, .data⟩ (by simp) rfl
      have s8 := HA.out 8 44 (by decide) f8 rfl
      simp only [List.getD_cons_succ, List.getD_cons_zero] at s8
      clear HAf HA HZ f8
      cases ho
      go_simp
      exact HK.out _ (by rw [upd_map fs (by decide)]; exact HJ.out)
    · intro o ho fs W HFi HAf HJ A HA HZ K' HK
      have z3 : A.tmps[3]? = some _ := HZ.out 3 (by decide)
      have f9 : fs 9 = true := by cases ho; exact HAf.out ⟨9, .chain⟩ (by simp) rfl
      have s9 := HA.out 9 45 (by decide) f9 rfl
      simp only [List.getD_cons_succ, List.getD_cons_zero] at s9
      clear HAf HA HZ f9
      cases ho
      have hfi := HFi.out
      obtain ⟨P, HP, hP0⟩ := HJ.out
      obtain rfl : P = 0 := hP0 (by rw [List.map_singleton, hfi])
      clear hP0
      go_simp
      refine (run_t _ namC named_t (w.heap.size + 1) tx 0 (.map none) W (HP.out.blk 0 rfl) (by omega) (Nat.zero_le _)).mono ?_
      rintro e w' ⟨rfl, hr, ho⟩
      rw [List.drop_zero] at *
      exact HK.out _ ⟨_, Lib.hid (HP.out.call 0 ho hr (by refine ⟨?_, ?_, trivial⟩ <;> (simp only [Fq.apart]; first | omega | (intro b h1 h2; omega) | (intro b h1; omega) | (intro b h1 h2 h3; omega)))), fun h => by rw [List.map_singleton, upd_at] at h; cases h⟩
    · intro o ho fs W HFi HAf HJ A HA HZ K' HK
      have z1 : A.tmps[1]? = some _ := HZ.out 1 (by decide)
      have f9 : fs 9 = true := by cases ho; exact HAf.out ⟨9, .guard⟩ (by simp) rfl
      have s9 := HA.out 9 45 (by decide) f9 rfl
      simp only [List.getD_cons_succ, List.getD_cons_zero] at s9
      clear HAf HA HZ f9
      cases ho
      go_simp
      exact HK.out _ (by rw [upd_map fs (by decide)]; exact HJ.out)
    · intro o ho fs W HFi HAf HJ A HA HZ K' HK
      have f11 : fs 11 = true := by cases ho; exact HAf.out ⟨11, .data⟩ (by simp) rfl
      have s11 := HA.out 11 47 (by decide) f11 rfl
      simp only [List.getD_cons_succ, List.getD_cons_zero] at s11
      have f9 : fs 9 = true := by cases ho; exact HAf.out ⟨9, .guard⟩ (by simp) rfl
      have s9 := HA.out 9 45 (by decide) f9 rfl
      simp only [List.getD_cons_succ, List.getD_cons_zero] at s9
      clear HAf HA HZ f11 f9
      obtain ⟨P, HP, hP0⟩ := HJ.out
      obtain ⟨c0, c1, c2, c3, -⟩ := four_cells (HP.out.blk 1 rfl)
      cases ho
      go_simp
      exact HK.out _ (by rw [upd_map fs (by decide)]; exact HJ.out)
    · intro o ho fs W HFi HAf HJ A HA HZ K' HK
      have f10 : fs 10 = true := by cases ho; exact HAf.out ⟨10, .data⟩ (by simp) rfl
      have s10 := HA.out 10 46 (by decide) f10 rfl
      simp only [List.getD_cons_succ, List.getD_cons_zero] at s10
      have f12 : fs 12 = true := by cases ho; exact HAf.out ⟨12, .data⟩ (by simp) rfl
      have s12 := HA.out 12 48 (by decide) f12 rfl
      simp only [List.getD_cons_succ, List.getD_cons_zero] at s12
      have f9 : fs 9 = true := by cases ho; exact HAf.out ⟨9, .guard⟩ (by simp) rfl
      have s9 := HA.out 9 45 (by decide) f9 rfl
      simp only [List.getD_cons_succ, List.getD_cons_zero] at s9
      clear HAf HA HZ f10 f12 f9
      cases ho
      go_simp
      exact HK.out _ (by rw [upd_map fs (by decide)]; exact HJ.out)
    · intro o ho fs W HFi HAf HJ A HA HZ K' HK
      have f9 : fs 9 = true := by cases ho; exact HAf.out ⟨9, .data⟩ (by simp) rfl
      have s9 := HA.out 9 45 (by decide) f9 rfl
      simp only [List.getD_cons_succ, List.getD_cons_zero] at s9
      have f13 : fs 13 = true := by cases ho; exact HAf.out ⟨13, .data⟩ (by simp) rfl
      have s13 := HA.out 13 49 (by decide) f13 rfl
      simp only [List.getD_cons_succ, List.getD_cons_zero] at s13
      clear HAf HA HZ f9 f13
      cases ho
      go_simp
      exact HK.out _ (by rw [upd_map fs (by decide)]; exact HJ.out)
    · intro o ho fs W HFi HAf HJ A HA HZ K' HK
      have f14 : fs 14 = true := by cases ho; exact HAf.out ⟨14, .data⟩ (by simp) rfl
      have s14 := HA.out 14 50 (by decide) f14 rfl
      simp only [List.getD_cons_succ, List.getD_cons_zero] at s14
      clear HAf HA HZ f14
      cases ho
      go_simp
      exact HK.out _ (by rw [upd_map fs (by decide)]; exact HJ.out)
    · intro o ho fs W HFi HAf HJ A HA HZ K' HK
      have z1 : A.tmps[1]? = some _ := HZ.out 1 (by decide)
      have f15 : fs 15 = true := by cases ho; exact HAf.out ⟨15, .guard⟩ (by simp) rfl
      have s15 := HA.out 15 51 (by decide) f15 rfl
      simp only [List.getD_cons_succ, List.getD_cons_zero] at s15
      clear HAf HA HZ f15
      cases ho
      go_simp
      exact HK.out _ (by rw [upd_map fs (by decide)]; exact HJ.out)
    · intro o ho fs W HFi HAf HJ A HA HZ K' HK
      have f16 : fs 16 = true := by cases ho; exact HAf.out ⟨16, .data⟩ (by simp) rfl
      have s16 := HA.out 16 52 (by decide) f16 rfl
      simp only [List.getD_cons_succ, List.getD_cons_zero] at s16
      have f15 : fs 15 = true := by cases ho; exact HAf.out ⟨15, .guard⟩ (by simp) rfl
      have s15 := HA.out 15 51 (by decide) f15 rfl
      simp only [List.getD_cons_succ, List.getD_cons_zero] at s15
      clear HAf HA HZ f16 f15
      obtain ⟨P, HP, hP0⟩ := HJ.out
      obtain ⟨c0, c1, c2, c3, -⟩ := four_cells (HP.out.blk 1 rfl)
      cases ho
      go_simp
      exact HK.out _ (by rw [upd_map fs (by decide)]; exact HJ.out)
    · intro o ho fs W HFi HAf HJ A HA HZ K' HK
      have f17 : fs 17 = true := by cases ho; exact HAf.out ⟨17, .data⟩ (by simp) rfl
      have s17 := HA.out 17 53 (by decide) f17 rfl
      simp only [List.getD_cons_succ, List.getD_cons_zero] at s17
      have f15 : fs 15 = true := by cases ho; exact HAf.out ⟨15, .guard⟩ (by simp) rfl
      have s15 := HA.out 15 51 (by decide) f15 rfl
      simp only [List.getD_cons_succ, List.getD_cons_zero] at s15
      clear HAf HA HZ f17 f15
      cases ho
      go_simp
      exact HK.out _ (by rw [upd_map fs (by decide)]; exact HJ.out)
    · intro o ho fs W HFi HAf HJ A HA HZ K' HK
      have f18 : fs 18 = true := by cases ho; exact HAf.out ⟨18, .data⟩ (by simp) rfl
      have s18 := HA.out 18 54 (by decide) f18 rfl
      simp only [List.getD_cons_succ, List.getD_cons_zero] at s18
      have f15 : fs 15 = true := by cases ho; exact HAf.out ⟨15, .guard⟩ (by simp) rfl
      have s15 := HA.out 15 51 (by decide) f15 rfl
      simp only [List.getD_cons_succ, List.getD_cons_zero] at s15
      clear HAf HA HZ f18 f15
      cases ho
      go_simp
      exact HK.out _ (by rw [upd_map fs (by decide)]; exact HJ.out)
    · intro o ho fs W HFi HAf HJ A HA HZ K' HK
      have f19 : fs 19 = true := by cases ho; exact HAf.out ⟨19, .data⟩ (by simp) rfl
      have s19 := HA.out 19 55 (by decide) f19 rfl
      simp only [List.getD_cons_succ, List.getD_cons_zero] at s19
      have f15 : fs 15 = true := by cases ho; exact HAf.out ⟨15, .chain⟩ (by simp) rfl
      have s15 := HA.out 15 51 (by decide) f15 rfl
      simp only [List.getD_cons_succ, List.getD_cons_zero] at s15
      clear HAf HA HZ f19 f15
      cases ho
      go_simp
      exact HK.out _ (by rw [upd_map fs (by decide)]; exact HJ.out)
    · intro o ho fs W HFi HAf HJ A HA HZ K' HK
      have z1 : A.tmps[1]? = some _ := HZ.out 1 (by decide)
      have f20 : fs 20 = true := by cases ho; exact HAf.out ⟨20, .guard⟩ (by simp) rfl
      have s20 := HA.out 20 56 (by decide) f20 rfl
      simp only [List.getD_cons_succ, List.getD_cons_zero] at s20
      clear HAf HA HZ f20
      cases ho
      go_simp
      exact HK.out _ (by rw [upd_map fs (by decide)]; exact HJ.out)
    · intro o ho fs W HFi HAf HJ A HA HZ K' HK
      have f21 : fs 21 = true := by cases ho; exact HAf.out ⟨21, .data⟩ (by simp) rfl
      have s21 := HA.out 21 57 (by decide) f21 rfl
      simp only [List.getD_cons_succ, List.getD_cons_zero] at s21
      have f20 : fs 20 = true := by cases ho; exact HAf.out ⟨20, .guard⟩ (by simp) rfl
      have s20 := HA.out 20 56 (by decide) f20 rfl
      simp only [List.getD_cons_succ, List.getD_cons_zero] at s20
      clear HAf HA HZ f21 f20
      obtain ⟨P, HP, hP0⟩ := HJ.out
      obtain ⟨c0, c1, c2, c3, -⟩ := four_cells (HP.out.blk 1 rfl)
      cases ho
      go_simp
      exact HK.out _ (by rw [upd_map fs (by decide)]; exact HJ.out)
    · intro o ho fs W HFi HAf HJ A HA HZ K' HK
      have f22 : fs 22 = true := by cases ho; exact HAf.out ⟨22, .data⟩ (by simp) rfl
      have s22 := HA.out 22 58 (by decide) f22 rfl
      simp only [List.getD_cons_succ, List.getD_cons_zero] at s22
      have f20 : fs 20 = true := by cases ho; exact HAf.out ⟨20, .guard⟩ (by simp) rfl
      have s20 := HA.out 20 56 (by decide) f20 rfl
      simp only [List.getD_cons_succ, List.getD_cons_zero] at s20
      clear HAf HA HZ f22 f20
      cases ho
      go_simp
      exact HK.out _ (by rw [upd_map fs (by decide)]; exact HJ.out)
    · intro o ho fs W HFi HAf HJ A HA HZ K' HK
      have f23 : fs 23 = true := by cases ho; exact HAf.out ⟨23, .data⟩ (by simp) rfl
      have s23 := HA.out 23 59 (by decide) f23 rfl
      simp only [List.getD_cons_succ, List.getD_cons_zero] at s23
      have f20 : fs 20 = true := by cases ho; exact HAf.out ⟨20, .guard⟩ (by simp) rfl
      have s20 := HA.out 20 56 (by decide) f20 rfl
      simp only [List.getD_cons_succ, List.getD_cons_zero] at s20
      clear HAf HA HZ f23 f20
      cases ho
      go_simp
      exact HK.out _ (by rw [upd_map fs (by decide)]; exact HJ.out)
    · intro o ho fs W HFi HAf HJ A HA HZ K' HK
      have f24 : fs 24 = true := by cases ho; exact HAf.out ⟨24, .data⟩ (by simp) rfl
      have s24 := HA.out 24 60 (by decide) f24 rfl
      simp only [List.getD_cons_succ, List.getD_cons_zero] at s24
      have f20 : fs 20 = true := by cases ho; exact HAf.out ⟨20, .chain⟩ (by simp) rfl
      have s20 := HA.out 20 56 (by decide) f20 rfl
      simp only [List.getD_cons_succ, List.getD_cons_zero] at s20
      clear HAf HA HZ f24 f20
      cases ho
      go_simp
      exact HK.out _ (by rw [upd_map fs (by decide)]; exact HJ.out)
    · intro o ho fs W HFi HAf HJ A HA HZ K' HK
      have z1 : A.tmps[1]? = some _ := HZ.out 1 (by decide)
      have f25 : fs 25 = true := by cases ho; exact HAf.out ⟨25, .guard⟩ (by simp) rfl
      have s25 := HA.out 25 61 (by decide) f25 rfl
      simp only [List.getD_cons_succ, List.getD_cons_zero] at s25
      clear HAf HA HZ f25
      cases ho
      go_simp
      exact HK.out _ (by rw [upd_map fs (by decide)]; exact HJ.out)
    · intro o ho fs W HFi HAf HJ A HA HZ K' HK
      have f26 : fs 26 = true := by cases ho; exact HAf.out ⟨26, .data⟩ (by simp) rfl
      have s26 := HA.out 26 62 (by decide) f26 rfl
      simp only [List.getD_cons_succ, List.getD_cons_zero] at s26
      have f25 : fs 25 = true := by cases ho; exact HAf.out ⟨25, .guard⟩ (by simp) rfl
      have s25 := HA.out 25 61 (by decide) f25 rfl
      simp only [List.getD_cons_succ, List.getD_cons_zero] at s25
      clear HAf HA HZ f26 f25
      obtain ⟨P, HP, hP0⟩ := HJ.out
      obtain ⟨c0, c1, c2, c3, -⟩ := four_cells (HP.out.blk 1 rfl)
      cases ho
      go_simp
      exact HK.out _ (by rw [upd_map fs (by decide)]; exact HJ.out)
    · intro o ho fs W HFi HAf HJ A HA HZ K' HK
      have f27 : fs 27 = true := by cases ho; exact HAf.out ⟨27, .data⟩ (by simp) rfl
      have s27 := HA.out 27 63 (by decide) f27 rfl
      simp only [List.getD_cons_succ, List.getD_cons_zero] at s27
      have f25 : fs 25 = true := by cases ho; exact HAf.out ⟨25, .guard⟩ (by simp) rfl
      have s25 := HA.out 25 61 (by decide) f25 rfl
      simp only [List.getD_cons_succ, List.getD_cons_zero] at s25
      clear HAf HA HZ f27 f25
      cases ho
      go_simp
      exact HK.out _ (by rw [upd_map fs (by decide)]; exact HJ.out)
    · intro o ho fs W HFi HAf HJ A HA HZ K' HK
      have f28 : fs 28 = true := by cases ho; exact HAf.out ⟨28, .data⟩ (by simp) rfl
      have s28 := HA.out 28 64 (by decide) f28 rfl
      simp only [List.getD_cons_succ, List.getD_cons_zero] at s28
      have f25 : fs 25 = true := by cases ho; exact HAf.out ⟨25, .guard⟩ (by simp) rfl
      have s25 := HA.out 25 61 (by decide) f25 rfl
      simp only [List.getD_cons_succ, List.getD_cons_zero] at s25
      clear HAf HA HZ f28 f25
      cases ho
      go_simp
      exact HK.out _ (by rw [upd_map fs (by decide)]; exact HJ.out)
    · intro o ho fs W HFi HAf HJ A HA HZ K' HK
      have f25 : fs 25 = true := by cases ho; exact HAf.out ⟨25, .data⟩ (by simp) rfl
      have s25 := HA.out 25 61 (by decide) f25 rfl
      simp only [List.getD_cons_succ, List.getD_cons_zero] at s25
      have f29 : fs 29 = true := by cases ho; exact HAf.out ⟨29, .data⟩ (by simp) rfl
      have s29 := HA.out 29 65 (by decide) f29 rfl
      simp only [List.getD_cons_succ, List.getD_cons_zero] at s29
      have f20 : fs 20 = true := by cases ho; exact HAf.out ⟨20, .guard⟩ (by simp) rfl
      have s20 := HA.out 20 56 (by decide) f20 rfl
      simp only [List.getD_cons_succ, List.getD_cons_zero] at s20
      clear HAf HA HZ f25 f29 f20
      cases ho
      go_simp
      exact HK.out _ (by rw [upd_map fs (by decide)]; exact HJ.out)
    · intro o ho fs W HFi HAf HJ A HA HZ K' HK
      have f20 : fs 20 = true := by cases ho; exact HAf.out ⟨20, .data⟩ (by simp) rfl
      have s20 := HA.out 20 56 (by decide) f20 rfl
      simp only [List.getD_cons_succ, List.getD_cons_zero] at s20
      have f30 : fs 30 = true := by cases ho; exact HAf.out ⟨30, .data⟩ (by simp) rfl
      have s30 := HA.out 30 66 (by decide) f30 rfl
      simp only [List.getD_cons_succ, List.getD_cons_zero] at s30
      have f15 : fs 15 = true := by cases ho; exact HAf.out ⟨15, .guard⟩ (by simp) rfl
      have s15 := HA.out 15 51 (by decide) f15 rfl
      simp only [List.getD_cons_succ, List.getD_cons_zero] at s15
      clear HAf HA HZ f20 f30 f15
      cases ho
      go_simp
      exact HK.out _ (by rw [upd_map fs (by decide)]; exact HJ.out)
    · intro o ho fs W HFi HAf HJ A HA HZ K' HK
      have f15 : fs 15 = true := by cases ho; exact HAf.out ⟨15, .data⟩ (by simp) rfl
      have s15 := HA.out 15 51 (by decide) f15 rfl
      simp only [List.getD_cons_succ, List.getD_cons_zero] at s15
      have f31 : fs 31 = true := by cases ho; exact HAf.out ⟨31, .data⟩ (by simp) rfl
      have s31 := HA.out 31 67 (by decide) f31 rfl
      simp only [List.getD_cons_succ, List.getD_cons_zero] at s31
      clear HAf HA HZ f15 f31
      cases ho
      go_simp
      exact HK.out _ (by rw [upd_map fs (by decide)]; exact HJ.out)
  · intro W hJ
    simp only [canon, Act.put, List.getD_cons_succ, List.getD_cons_zero, List.drop_succ_cons, List.drop_zero, List.setIfInBounds_toArray, List.set_cons_zero, List.set_cons_succ]
    obtain ⟨P, HP, -⟩ := hJ
    have HW := Lib.hid (HP.out.base 2 rfl)
    clear HP
    go_wp2_with fail
    go_ret
    exact ⟨rfl, HW.out.below (Nat.le_refl _) (fun _ _ h => h)⟩
set_option maxRecDepth 100000 in
set_option maxHeartbeats 8000000 in
theorem Valid_2cap (k : Int) (tx : List UInt8) (n : Nat) (pos : Int) (w : World) (hk : k = 2) (hn : n = 0) (ht : tx ≠ []) (hl : tx.length ≤ 32) (hw : tx.takeWhile namC = tx) (c : UInt8) (hc : ∀ h, (ba tx)[0]'h = c) (h1 : 65 ≤ c.toNat) (h2 : c.toNat ≤ 90) :
    Calls Tryz.prog 18 #[.agg #[.int .i64 k, .string (ba tx), .int .u64 (n : Int), .int .i64 pos]] w fun e w' => e = .returned (.bool true) ∧ Below w.heap.size w w' := by
  subst hn
  have x3 : (k == 3) = false := by simp; omega
  have x1 : (k == 1) = false := by simp; omega
  have x2 : (k == 2) = true := by simp; omega
  have x4 : (k == 4) = false := by simp; omega
  have x5 : (k == 5) = false := by simp; omega
  have x6 : (k == 6) = false := by simp; omega
  clear hk
  have xe : (ba tx).toList.isEmpty = false := by rw [ba_toList]; cases tx with | nil => exact absurd rfl ht | cons c r => rfl
  have s1 : ((ba tx).size : Int) = (tx.length : Int) := by rw [ba_size]
  have xl : (tx.length : Int) ≤ 32 := by omega
  have hks : 0 < (ba tx).size := by rw [ba_size]; cases tx with | nil => exact absurd rfl ht | cons c r => simp
  have hks2 : 0 < tx.length := by rw [ba_size] at hks; exact hks
  clear ht
  have xq : ((ba (tx.takeWhile namC)).toList == (ba tx).toList) = true := by rw [ba_toList, ba_toList]; simpa using hw
  have hc0 : ((ba tx)[0]'hks).toNat = c.toNat := by rw [hc]
  have y95 : ((((ba tx)[0]'hks).toNat : Int) == 95) = false := by simp; omega
  have y65 : (65 : Int) ≤ (((ba tx)[0]'hks).toNat : Int) := by omega
  have y90 : (((ba tx)[0]'hks).toNat : Int) ≤ 90 := by omega
  clear hc0 hc h1 h2
  clear hw
  go_enter Tryz.func18, Tryz.ntmps18
  go_upto_region 10 with (fail)
  have HB0 := Lib.hid (show Bq ((w.alloc (.cells #[.int .i64 k, .string (ba tx), .int .u64 ((0 : Nat) : Int), .int .i64 pos] 36 (0, 0))).alloc (.cells #[.string (ba tx), .int .i64 0, .map none] 43 (0, 0))).drew [.blk (w.heap.size + 1) #[.string (ba tx), .int .i64 (((0 : Nat) : Int)), .map none] 43, .blk w.heap.size #[.int .i64 k, .string (ba tx), .int .u64 ((0 : Nat) : Int), .int .i64 pos] 36, .base (fun _ => False) w] from (Bq.box (Bq.box (show Bq w [.base (fun _ => False) w] from ⟨Ch.refl _ _, trivial⟩) _ _ rfl) _ _ (World.size_alloc _ _)).dr)
  refine' wp_region_fix (by kernel_rfl) 33 [some 36, some 37, some 38, some 39, some 40, some 41, some 42, some 43, some 44, some 45, some 46, some 47, some 48, some 49, some 50, some 51, some 52, some 53, some 54, some 55, some 56, some 57, some 58, some 59, some 60, some 61, some 62, some 63, some 64, some 65, some 66, some 67, some 68] [_, _, _, _, _, _, _, _, _, _, _, _, _, _, _, _, _, _, _, _, _, _, _, _, _, _, _, _, _, _, _, _, _] [10] (fun fs W => ∃ P : Nat, Hid (Bq W [.blk (w.heap.size + 1) #[.string (ba tx), .int .i64 ((P : Int)), .map none] 43, .blk w.heap.size #[.int .i64 k, .string (ba tx), .int .u64 ((0 : Nat) : Int), .int .i64 pos] 36, .base (fun _ => False) w]) ∧ (fs = [false] → P = 0)) (by kernel_rfl) (by decide) (by kernel_rfl) (by decide) (by rfl) (by decide) (⟨0, HB0, fun _ => rfl⟩) ?_ ?_
  rotate_left 33
  · refine all_cons 0 ?_ (all_cons 1 ?_ (all_cons 2 ?_ (all_cons 3 ?_ (all_cons 4 ?_ (all_cons 5 ?_ (all_cons 6 ?_ (all_cons 7 ?_ (all_cons 8 ?_ (all_cons 9 ?_ (all_cons 10 ?_ (all_cons 11 ?_ (all_cons 12 ?_ (all_cons 13 ?_ (all_cons 14 ?_ (all_cons 15 ?_ (all_cons 16 ?_ (all_cons 17 ?_ (all_cons 18 ?_ (all_cons 19 ?_ (all_cons 20 ?_ (all_cons 21 ?_ (all_cons 22 ?_ (all_cons 23 ?_ (all_cons 24 ?_ (all_cons 25 ?_ (all_cons 26 ?_ (all_cons 27 ?_ (all_cons 28 ?_ (all_cons 29 ?_ (all_cons 30 ?_ (all_cons 31 ?_ (all_cons 32 ?_ (all_done 33)))))))))))))))))))))))))))))))))
    · intro o ho fs W HFi HAf HJ A HA HZ K' HK
      have z1 : A.tmps[1]? = some _ := HZ.out 1 (by decide)
      clear HAf HA HZ
      cases ho
      go_simp
      exact HK.out _ (by rw [upd_map fs (by decide)]; exact HJ.out)
    · intro o ho fs W HFi HAf HJ A HA HZ K' HK
      have f0 : fs 0 = true := by cases ho; exact HAf.out ⟨0, .data⟩ (by simp) rfl
      have s0 := HA.out 0 36 (by decide) f0 rfl
      simp only [List.getD_cons_zero] at s0
      clear HAf HA HZ f0
      obtain ⟨P, HP, hP0⟩ := HJ.out
      obtain ⟨c0, c1, c2, c3, -⟩ := four_cells (HP.out.blk 1 rfl)
      cases ho
      go_simp
      exact HK.out _ (by rw [upd_map fs (by decide)]; exact HJ.out)
    · intro o ho fs W HFi HAf HJ A HA HZ K' HK
      have f1 : fs 1 = true := by cases ho; exact HAf.out ⟨1, .data⟩ (by simp) rfl
      have s1 := HA.out 1 37 (by decide) f1 rfl
      simp only [List.getD_cons_succ, List.getD_cons_zero] at s1
      clear HAf HA HZ f1
      cases ho
      go_simp
      exact HK.out _ (by rw [upd_map fs (by decide)]; exact HJ.out)
    · intro o ho fs W HFi HAf HJ A HA HZ K' HK
      have f2 : fs 2 = true := by cases ho; exact HAf.out ⟨2, .data⟩ (by simp) rfl
      have s2 := HA.out 2 38 (by decide) f2 rfl
      simp only [List.getD_cons_succ, List.getD_cons_zero] at s2
      clear HAf HA HZ f2
      cases ho
      go_simp
      exact HK.out _ (by rw [upd_map fs (by decide)]; exact HJ.out)
    · intro o ho fs W HFi HAf HJ A HA HZ K' HK
      have z1 : A.tmps[1]? = some _ := HZ.out 1 (by decide)
      have f3 : fs 3 = true := by cases ho; exact HAf.out ⟨3, .guard⟩ (by simp) rfl
      have s3 := HA.out 3 39 (by decide) f3 rfl
      simp only [List.getD_cons_succ, List.getD_cons_zero] at s3
      clear HAf HA HZ f3
      cases ho
      go_simp
      exact HK.out _ (by rw [upd_map fs (by decide)]; exact HJ.out)
    · intro o ho fs W HFi HAf HJ A HA HZ K' HK
      have f4 : fs 4 = true := by cases ho; exact HAf.out ⟨4, .data⟩ (by simp) rfl
      have s4 := HA.out 4 40 (by decide) f4 rfl
      simp only [List.getD_cons_succ, List.getD_cons_zero] at s4
      have f3 : fs 3 = true := by cases ho; exact HAf.out ⟨3, .guard⟩ (by simp) rfl
      have s3 := HA.out 3 39 (by decide) f3 rfl
      simp only [List.getD_cons_succ, List.getD_cons_zero] at s3
      clear HAf HA HZ f4 f3
      obtain ⟨P, HP, hP0⟩ := HJ.out
      obtain ⟨c0, c1, c2, c3, -⟩ := four_cells (HP.out.blk 1 rfl)
      cases ho
      go_simp
      exact HK.out _ (by rw [upd_map fs (by decide)]; exact HJ.out)
    · intro o ho fs W HFi HAf HJ A HA HZ K' HK
      have f5 : fs 5 = true := by cases ho; exact HAf.out ⟨5, .data⟩ (by simp) rfl
      have s5 := HA.out 5 41 (by decide) f5 rfl
      simp only [List.getD_cons_succ, List.getD_cons_zero] at s5
      have f3 : fs 3 = true := by cases ho; exact HAf.out ⟨3, .guard⟩ (by simp) rfl
      have s3 := HA.out 3 39 (by decide) f3 rfl
      simp only [List.getD_cons_succ, List.getD_cons_zero] at s3
      clear HAf HA HZ f5 f3
      cases ho
      go_simp
      exact HK.out _ (by rw [upd_map fs (by decide)]; exact HJ.out)
    · intro o ho fs W HFi HAf HJ A HA HZ K' HK
      have f6 : fs 6 = true := by cases ho; exact HAf.out ⟨6, .data⟩ (by simp) rfl
      have s6 := HA.out 6 42 (by decide) f6 rfl
      simp only [List.getD_cons_succ, List.getD_cons_zero] at s6
      have f3 : fs 3 = true := by cases ho; exact HAf.out ⟨3, .guard⟩ (by simp) rfl
      have s3 := HA.out 3 39 (by decide) f3 rfl
      simp only [List.getD_cons_succ, List.getD_cons_zero] at s3
      clear HAf HA HZ f6 f3
      cases ho
      go_simp
      exact HK.out _ (by rw [upd_map fs (by decide)]; exact HJ.out)
    · intro o ho fs W HFi HAf HJ A HA HZ K' HK
      have f3 : fs 3 = true := by cases ho; exact HAf.out ⟨3, .data⟩ (by simp) rfl
      have s3 := HA.out 3 39 (by decide) f3 rfl
      simp only [List.getD_cons_succ, List.getD_cons_zero] at s3
      have f7 : fs 7 = true := by cases ho; exact HAf.out ⟨7, .data⟩ (by simp) rfl
      have s7 := HA.out 7 43 (by decide) f7 rfl
      simp only [List.getD_cons_succ, List.getD_cons_zero] at s7
      clear HAf HA HZ f3 f7
      cases ho
      go_simp
      exact HK.out _ (by rw [upd_map fs (by decide)]; exact HJ.out)
    · intro o ho fs W HFi HAf HJ A HA HZ K' HK
      have f8 : fs 8 = true := by cases ho; exact HAf.out ⟨8, .data⟩ (by simp) rfl
      have s8 := HA.out 8 44 (by decide) f8 rfl
      simp only [List.getD_cons_succ, List.getD_cons_zero] at s8
      clear HAf HA HZ f8
      cases ho
      go_simp
      exact HK.out _ (by rw [upd_map fs (by decide)]; exact HJ.out)
    · intro o ho fs W HFi HAf HJ A HA HZ K' HK
      have z3 : A.tmps[3]? = some _ := HZ.out 3 (by decide)
      have f9 : fs 9 = true := by cases ho; exact HAf.out ⟨9, .chain⟩ (by simp) rfl
      have s9 := HA.out 9 45 (by decide) f9 rfl
      simp only [List.getD_cons_succ, List.getD_cons_zero] at s9
      clear HAf HA HZ f9
      cases ho
      have hfi := HFi.out
      obtain ⟨P, HP, hP0⟩ := HJ.out
      obtain rfl : P = 0 := hP0 (by rw [List.map_singleton, hfi])
      clear hP0
      go_simp
      refine (run_t _ namC named_t (w.heap.size + 1) tx 0 (.map none) W (HP.out.blk 0 rfl) (by omega) (Nat.zero_le _)).mono ?_
      rintro e w' ⟨rfl, hr, ho⟩
      rw [List.drop_zero] at *
      exact HK.out _ ⟨_, Lib.hid (HP.out.call 0 ho hr (by refine ⟨?_, ?_, trivial⟩ <;> (simp only [Fq.apart]; first | omega | (intro b h1 h2; omega) | (intro b h1; omega) | (intro b h1 h2 h3; omega)))), fun h => by rw [List.map_singleton, upd_at] at h; cases h⟩
    · intro o ho fs W HFi HAf HJ A HA HZ K' HK
      have z1 : A.tmps[1]? = some _ := HZ.out 1 (by decide)
      have f9 : fs 9 = true := by cases ho; exact HAf.out ⟨9, .guard⟩ (by simp) rfl
      have s9 := HA.out 9 45 (by decide) f9 rfl
      simp only [List.getD_cons_succ, List.getD_cons_zero] at s9
      clear HAf HA HZ f9
      cases ho
      go_simp
      exact HK.out _ (by rw [upd_map fs (by decide)]; exact HJ.out)
    · intro o ho fs W HFi HAf HJ A HA HZ K' HK
      have f11 : fs 11 = true := by cases ho; exact HAf.out ⟨11, .data⟩ (by simp) rfl
      have s11 := HA.out 11 47 (by decide) f11 rfl
      simp only [List.getD_cons_succ, List.getD_cons_zero] at s11
      have f9 : fs 9 = true := by cases ho; exact HAf.out ⟨9, .guard⟩ (by simp) rfl
      have s9 := HA.out 9 45 (by decide) f9 rfl
      simp only [List.getD_cons_succ, List.getD_cons_zero] at s9
      clear HAf HA HZ f11 f9
      obtain ⟨P, HP, hP0⟩ := HJ.out
      obtain ⟨c0, c1, c2, c3, -⟩ := four_cells (HP.out.blk 1 rfl)
      cases ho
      go_simp
      exact HK.out _ (by rw [upd_map fs (by decide)]; exact HJ.out)
    · intro o ho fs W HFi HAf HJ A HA HZ K' HK
      have f10 : fs 10 = true := by cases ho; exact HAf.out ⟨10, .data⟩ (by simp) rfl
      have s10 := HA.out 10 46 (by decide) f10 rfl
      simp only [List.getD_cons_succ, List.getD_cons_zero] at s10
      have f12 : fs 12 = true := by cases ho; exact HAf.out ⟨12, .data⟩ (by simp) rfl
      have s12 := HA.out 12 48 (by decide) f12 rfl
      simp only [List.getD_cons_succ, List.getD_cons_zero] at s12
      have f9 : fs 9 = true := by cases ho; exact HAf.out ⟨9, .guard⟩ (by simp) rfl
      have s9 := HA.out 9 45 (by decide) f9 rfl
      simp only [List.getD_cons_succ, List.getD_cons_zero] at s9
      clear HAf HA HZ f10 f12 f9
      cases ho
      go_simp
      exact HK.out _ (by rw [upd_map fs (by decide)]; exact HJ.out)
    · intro o ho fs W HFi HAf HJ A HA HZ K' HK
      have f9 : fs 9 = true := by cases ho; exact HAf.out ⟨9, .data⟩ (by simp) rfl
      have s9 := HA.out 9 45 (by decide) f9 rfl
      simp only [List.getD_cons_succ, List.getD_cons_zero] at s9
      have f13 : fs 13 = true := by cases ho; exact HAf.out ⟨13, .data⟩ (by simp) rfl
      have s13 := HA.out 13 49 (by decide) f13 rfl
      simp only [List.getD_cons_succ, List.getD_cons_zero] at s13
      clear HAf HA HZ f9 f13
      cases ho
      go_simp
      exact HK.out _ (by rw [upd_map fs (by decide)]; exact HJ.out)
    · intro o ho fs W HFi HAf HJ A HA HZ K' HK
      have f14 : fs 14 = true := by cases ho; exact HAf.out ⟨14, .data⟩ (by simp) rfl
      have s14 := HA.out 14 50 (by decide) f14 rfl
      simp only [List.getD_cons_succ, List.getD_cons_zero] at s14
      clear HAf HA HZ f14
      cases ho
      go_simp
      exact HK.out _ (by rw [upd_map fs (by decide)]; exact HJ.out)
    · intro o ho fs W HFi HAf HJ A HA HZ K' HK
      have z1 : A.tmps[1]? = some _ := HZ.out 1 (by decide)
      have f15 : fs 15 = true := by cases ho; exact HAf.out ⟨15, .guard⟩ (by simp) rfl
      have s15 := HA.out 15 51 (by decide) f15 rfl
      simp only [List.getD_cons_succ, List.getD_cons_zero] at s15
      clear HAf HA HZ f15
      cases ho
      go_simp
      exact HK.out _ (by rw [upd_map fs (by decide)]; exact HJ.out)
    · intro o ho fs W HFi HAf HJ A HA HZ K' HK
      have f16 : fs 16 = true := by cases ho; exact HAf.out ⟨16, .data⟩ (by simp) rfl
      have s16 := HA.out 16 52 (by decide) f16 rfl
      simp only [List.getD_cons_succ, List.getD_cons_zero] at s16
      have f15 : fs 15 = true := by cases ho; exact HAf.out ⟨15, .guard⟩ (by simp) rfl
      have s15 := HA.out 15 51 (by decide) f15 rfl
      simp only [List.getD_cons_succ, List.getD_cons_zero] at s15
      clear HAf HA HZ f16 f15
      obtain ⟨P, HP, hP0⟩ := HJ.out
      obtain ⟨c0, c1, c2, c3, -⟩ := four_cells (HP.out.blk 1 rfl)
      cases ho
      go_simp
      exact HK.out _ (by rw [upd_map fs (by decide)]; exact HJ.out)
    · intro o ho fs W HFi HAf HJ A HA HZ K' HK
      have f17 : fs 17 = true := by cases ho; exact HAf.out ⟨17, .data⟩ (by simp) rfl
      have s17 := HA.out 17 53 (by decide) f17 rfl
      simp only [List.getD_cons_succ, List.getD_cons_zero] at s17
      have f15 : fs 15 = true := by cases ho; exact HAf.out ⟨15, .guard⟩ (by simp) rfl
      have s15 := HA.out 15 51 (by decide) f15 rfl
      simp only [List.getD_cons_succ, List.getD_cons_zero] at s15
      clear HAf HA HZ f17 f15
      cases ho
      go_simp
      exact HK.out _ (by rw [upd_map fs (by decide)]; exact HJ.out)
    · intro o ho fs W HFi HAf HJ A HA HZ K' HK
      have f18 : fs 18 = true := by cases ho; exact HAf.out ⟨18, .data⟩ (by simp) rfl
      have s18 := HA.out 18 54 (by decide) f18 rfl
      simp only [List.getD_cons_succ, List.getD_cons_zero] at s18
      have f15 : fs 15 = true := by cases ho; exact HAf.out ⟨15, .guard⟩ (by simp) rfl
      have s15 := HA.out 15 51 (by decide) f15 rfl
      simp only [List.getD_cons_succ, List.getD_cons_zero] at s15
      clear HAf HA HZ f18 f15
      cases ho
      go_simp
      exact HK.out _ (by rw [upd_map fs (by decide)]; exact HJ.out)
    · intro o ho fs W HFi HAf HJ A HA HZ K' HK
      have f19 : fs 19 = true := by cases ho; exact HAf.out ⟨19, .data⟩ (by simp) rfl
      have s19 := HA.out 19 55 (by decide) f19 rfl
      simp only [List.getD_cons_succ, List.getD_cons_zero] at s19
      have f15 : fs 15 = true := by cases ho; exact HAf.out ⟨15, .chain⟩ (by simp) rfl
      have s15 := HA.out 15 51 (by decide) f15 rfl
      simp only [List.getD_cons_succ, List.getD_cons_zero] at s15
      clear HAf HA HZ f19 f15
      cases ho
      go_simp
      exact HK.out _ (by rw [upd_map fs (by decide)]; exact HJ.out)
    · intro o ho fs W HFi HAf HJ A HA HZ K' HK
      have z1 : A.tmps[1]? = some _ := HZ.out 1 (by decide)
      have f20 : fs 20 = true := by cases ho; exact HAf.out ⟨20, .guard⟩ (by simp) rfl
      have s20 := HA.out 20 56 (by decide) f20 rfl
      simp only [List.getD_cons_succ, List.getD_cons_zero] at s20
      clear HAf HA HZ f20
      cases ho
      go_simp
      exact HK.out _ (by rw [upd_map fs (by decide)]; exact HJ.out)
    · intro o ho fs W HFi HAf HJ A HA HZ K' HK
      have f21 : fs 21 = true := by cases ho; exact HAf.out ⟨21, .data⟩ (by simp) rfl
      have s21 := HA.out 21 57 (by decide) f21 rfl
      simp only [List.getD_cons_succ, List.getD_cons_zero] at s21
      have f20 : fs 20 = true := by cases ho; exact HAf.out ⟨20, .guard⟩ (by simp) rfl
      have s20 := HA.out 20 56 (by decide) f20 rfl
      simp only [List.getD_cons_succ, List.getD_cons_zero] at s20
      clear HAf HA HZ f21 f20
      obtain ⟨P, HP, hP0⟩ := HJ.out
      obtain ⟨c0, c1, c2, c3, -⟩ := four_cells (HP.out.blk 1 rfl)
      cases ho
      go_simp
      exact HK.out _ (by rw [upd_map fs (by decide)]; exact HJ.out)
    · intro o ho fs W HFi HAf HJ A HA HZ K' HK
      have f22 : fs 22 = true := by cases ho; exact HAf.out ⟨22, .data⟩ (by simp) rfl
      have s22 := HA.out 22 58 (by decide) f22 rfl
      simp only [List.getD_cons_succ, List.getD_cons_zero] at s22
      have f20 : fs 20 = true := by cases ho; exact HAf.out ⟨20, .guard⟩ (by simp) rfl
      have s20 := HA.out 20 56 (by decide) f20 rfl
      simp only [List.getD_cons_succ, List.getD_cons_zero] at s20
      clear HAf HA HZ f22 f20
      cases ho
      go_simp
      exact HK.out _ (by rw [upd_map fs (by decide)]; exact HJ.out)
    · intro o ho fs W HFi HAf HJ A HA HZ K' HK
      have f23 : fs 23 = true := by cases ho; exact HAf.out ⟨23, .data⟩ (by simp) rfl
      have s23 := HA.out 23 59 (by decide) f23 rfl
      simp only [List.getD_cons_succ, List.getD_cons_zero] at s23
      have f20 : fs 20 = true := by cases ho; exact HAf.out ⟨20, .guard⟩ (by simp) rfl
      have s20 := HA.out 20 56 (by decide) f20 rfl
      simp only [List.getD_cons_succ, List.getD_cons_zero] at s20
      clear HAf HA HZ f23 f20
      cases ho
      go_simp
      exact HK.out _ (by rw [upd_map fs (by decide)]; exact HJ.out)
    · intro o ho fs W HFi HAf HJ A HA HZ K' HK
      have f24 : fs 24 = true := by cases ho; exact HAf.out ⟨24, .data⟩ (by simp) rfl
      have s24 := HA.out 24 60 (by decide) f24 rfl
      simp only [List.getD_cons_succ, List.getD_cons_zero] at s24
      have f20 : fs 20 = true := by cases ho; exact HAf.out ⟨20, .chain⟩ (by simp) rfl
      have s20 := HA.out 20 56 (by decide) f20 rfl
      simp only [List.getD_cons_succ, List.getD_cons_zero] at s20
      clear HAf HA HZ f24 f20
      cases ho
      go_simp
      exact HK.out _ (by rw [upd_map fs (by decide)]; exact HJ.out)
    · intro o ho fs W HFi HAf HJ A HA HZ K' HK
      have z1 : A.tmps[1]? = some _ := HZ.out 1 (by decide)
      have f25 : fs 25 = true := by cases ho; exact HAf.out ⟨25, .guard⟩ (by simp) rfl
      have s25 := HA.out 25 61 (by decide) f25 rfl
      simp only [List.getD_cons_succ, List.getD_cons_zero] at s25
      clear HAf HA HZ f25
      cases ho
      go_simp
      exact HK.out _ (by rw [upd_map fs (by decide)]; exact HJ.out)
    · intro o ho fs W HFi HAf HJ A HA HZ K' HK
      have f26 : fs 26 = true := by cases ho; exact HAf.out ⟨26, .data⟩ (by simp) rfl
      have s26 := HA.out 26 62 (by decide) f26 rfl
      simp only [List.getD_cons_succ, List.getD_cons_zero] at s26
      have f25 : fs 25 = true := by cases ho; exact HAf.out ⟨25, .guard⟩ (by simp) rfl
      have s25 := HA.out 25 61 (by decide) f25 rfl
      simp only [List.getD_cons_succ, List.getD_cons_zero] at s25
      clear HAf HA HZ f26 f25
      obtain ⟨P, HP, hP0⟩ := HJ.out
      obtain ⟨c0, c1, c2, c3, -⟩ := four_cells (HP.out.blk 1 rfl)
      cases ho
      go_simp
      exact HK.out _ (by rw [upd_map fs (by decide)]; exact HJ.out)
    · intro o ho fs W HFi HAf HJ A HA HZ K' HK
      have f27 : fs 27 = true := by cases ho; exact HAf.out ⟨27, .data⟩ (by simp) rfl
      have s27 := HA.out 27 63 (by decide) f27 rfl
      simp only [List.getD_cons_succ, List.getD_cons_zero] at s27
      have f25 : fs 25 = true := by cases ho; exact HAf.out ⟨25, .guard⟩ (by simp) rfl
      have s25 := HA.out 25 61 (by decide) f25 rfl
      simp only [List.getD_cons_succ, List.getD_cons_zero] at s25
      clear HAf HA HZ f27 f25
      cases ho
      go_simp
      exact HK.out _ (by rw [upd_map fs (by decide)]; exact HJ.out)
    · intro o ho fs W HFi HAf HJ A HA HZ K' HK
      have f28 : fs 28 = true := by cases ho; exact HAf.out ⟨28, .data⟩ (by simp) rfl
      have s28 := HA.out 28 64 (by decide) f28 rfl
      simp only [List.getD_cons_succ, List.getD_cons_zero] at s28
      have f25 : fs 25 = true := by cases ho; exact HAf.out ⟨25, .guard⟩ (by simp) rfl
      have s25 := HA.out 25 61 (by decide) f25 rfl
      simp only [List.getD_cons_succ, List.getD_cons_zero] at s25
      clear HAf HA HZ f28 f25
      cases ho
      go_simp
      exact HK.out _ (by rw [upd_map fs (by decide)]; exact HJ.out)
    · intro o ho fs W HFi HAf HJ A HA HZ K' HK
      have f25 : fs 25 = true := by cases ho; exact HAf.out ⟨25, .data⟩ (by simp) rfl
      have s25 := HA.out 25 61 (by decide) f25 rfl
      simp only [List.getD_cons_succ, List.getD_cons_zero] at s25
      have f29 : fs 29 = true := by cases ho; exact HAf.out ⟨29, .data⟩ (by simp) rfl
      have s29 := HA.out 29 65 (by decide) f29 rfl
      simp only [List.getD_cons_succ, List.getD_cons_zero] at s29
      have f20 : fs 20 = true := by cases ho; exact HAf.out ⟨20, .guard⟩ (by simp) rfl
      have s20 := HA.out 20 56 (by decide) f20 rfl
      simp only [List.getD_cons_succ, List.getD_cons_zero] at s20
      clear HAf HA HZ f25 f29 f20
      cases ho
      go_simp
      exact HK.out _ (by rw [upd_map fs (by decide)]; exact HJ.out)
    · intro o ho fs W HFi HAf HJ A HA HZ K' HK
      have f20 : fs 20 = true := by cases ho; exact HAf.out ⟨20, .data⟩ (by simp) rfl
      have s20 := HA.out 20 56 (by decide) f20 rfl
      simp only [List.getD_cons_succ, List.getD_cons_zero] at s20
      have f30 : fs 30 = true := by cases ho; exact HAf.out ⟨30, .data⟩ (by simp) rfl
      have s30 := HA.out 30 66 (by decide) f30 rfl
      simp only [List.getD_cons_succ, List.getD_cons_zero] at s30
      have f15 : fs 15 = true := by cases ho; exact HAf.out ⟨15, .guard⟩ (by simp) rfl
      have s15 := HA.out 15 51 (by decide) f15 rfl
      simp only [List.getD_cons_succ, List.getD_cons_zero] at s15
      clear HAf HA HZ f20 f30 f15
      cases ho
      go_simp
      exact HK.out _ (by rw [upd_map fs (by decide)]; exact HJ.out)
    · intro o ho fs W HFi HAf HJ A HA HZ K' HK
      have f15 : fs 15 = true := by cases ho; exact HAf.out ⟨15, .data⟩ (by simp) rfl
      have s15 := HA.out 15 51 (by decide) f15 rfl
      simp only [List.getD_cons_succ, List.getD_cons_zero] at s15
      have f31 : fs 31 = true := by cases ho; exact HAf.out ⟨31, .data⟩ (by simp) rfl
      have s31 := HA.out 31 67 (by decide) f31 rfl
      simp only [List.getD_cons_succ, List.getD_cons_zero] at s31
      clear HAf HA HZ f15 f31
      cases ho
      go_simp
      exact HK.out _ (by rw [upd_map fs (by decide)]; exact HJ.out)
  · intro W hJ
    simp only [canon, Act.put, List.getD_cons_succ, List.getD_cons_zero, List.drop_succ_cons, List.drop_zero, List.setIfInBounds_toArray, List.set_cons_zero, List.set_cons_succ]
    obtain ⟨P, HP, -⟩ := hJ
    have HW := Lib.hid (HP.out.base 2 rfl)
    clear HP
    go_wp2_with fail
    go_ret
    exact ⟨rfl, HW.out.below (Nat.le_refl _) (fun _ _ h => h)⟩
set_option maxRecDepth 100000 in
set_option maxHeartbeats 8000000 in
theorem Valid_2hi (k : Int) (tx : List UInt8) (n : Nat) (pos : Int) (w : World) (hk : k = 2) (hn : n = 0) (ht : tx ≠ []) (hl : tx.length ≤ 32) (hw : tx.takeWhile namC = tx) (c : UInt8) (hc : ∀ h, (ba tx)[0]'h = c) (h1 : ¬ c.toNat = 95) (h2 : 90 < c.toNat) :
    Calls Tryz.prog 18 #[.agg #[.int .i64 k, .string (ba tx), .int .u64 (n : Int), .int .i64 pos]] w fun e w' => e = .returned (.bool false) ∧ Below w.heap.size w w' := by
  subst hn
  have x3 : (k == 3) = false := by simp; omega
  have x1 : (k == 1) = false := by simp; omega
  have x2 : (k == 2) = true := by simp; omega
  have x4 : (k == 4) = false := by simp; omega
  have x5 : (k == 5) = false := by simp; omega
  have x6 : (k == 6) = false := by simp; omega
  clear hk
  have xe : (ba tx).toList.isEmpty = false := by rw [ba_toList]; cases tx with | nil => exact absurd rfl ht | cons c r => rfl
  have s1 : ((ba tx).size : Int) = (tx.length : Int) := by rw [ba_size]
  have xl : (tx.length : Int) ≤ 32 := by omega
  have hks : 0 < (ba tx).size := by rw [ba_size]; cases tx with | nil => exact absurd rfl ht | cons c r => simp
  have hks2 : 0 < tx.length := by rw [ba_size] at hks; exact hks
  clear ht
  have xq : ((ba (tx.takeWhile namC)).toList == (ba tx).toList) = true := by rw [ba_toList, ba_toList]; simpa using hw
  have hc0 : ((ba tx)[0]'hks).toNat = c.toNat := by rw [hc]
  have y95 : ((((ba tx)[0]'hks).toNat : Int) == 95) = false := by simp; omega
  have y65 : (65 : Int) ≤ (((ba tx)[0]'hks).toNat : Int) := by omega
  have y90 : ¬ (((ba tx)[0]'hks).toNat : Int) ≤ 90 := by omega
  clear hc0 hc h1 h2
  clear hw
  go_enter Tryz.func18, Tryz.ntmps18
  go_upto_region 10 with (fail)
  have HB0 := Lib.hid (show Bq ((w.alloc (.cells #[.int .i64 k, .string (ba tx), .int .u64 ((0 : Nat) : Int), .int .i64 pos] 36 (0, 0))).alloc (.cells #[.string (ba tx), .int .i64 0, .map none] 43 (0, 0))).drew [.blk (w.heap.size + 1) #[.string (ba tx), .int .i64 (((0 : Nat) : Int)), .map none] 43, .blk w.heap.size #[.int .i64 k, .string (ba tx), .int .u64 ((0 : Nat) : Int), .int .i64 pos] 36, .base (fun _ => False) w] from (Bq.box (Bq.box (show Bq w [.base (fun _ => False) w] from ⟨Ch.refl _ _, trivial⟩) _ _ rfl) _ _ (World.size_alloc _ _)).dr)
  refine' wp_region_fix (by kernel_rfl) 33 [some 36, some 37, some 38, some 39, some 40, some 41, some 42, some 43, some 44, some 45, some 46, some 47, some 48, some 49, some 50, some 51, some 52, some 53, some 54, some 55, some 56, some 57, some 58, some 59, some 60, some 61, some 62, some 63, some 64, some 65, some 66, some 67, some 68] [_, _, _, _, _, _, _, _, _, _, _, _, _, _, _, _, _, _, _, _, _, _, _, _, _, _, _, _, _, _, _, _, _] [10] (fun fs W => ∃ P : Nat, Hid (Bq W [.blk (w.heap.size + 1) #[.string (ba tx), .int .i64 ((P : Int)), .map none] 43, .blk w.heap.size #[.int .i64 k, .string (ba tx), .int .u64 ((0 : Nat) : Int), .int .i64 pos] 36, .base (fun _ => False) w]) ∧ (fs = [false] → P = 0)) (by kernel_rfl) (by decide) (by kernel_rfl) (by decide) (by rfl) (by decide) (⟨0, HB0, fun _ => rfl⟩) ?_ ?_
  rotate_left 33
  · refine all_cons 0 ?_ (all_cons 1 ?_ (all_cons 2 ?_ (all_cons 3 ?_ (all_cons 4 ?_ (all_cons 5 ?_ (all_cons 6 ?_ (all_cons 7 ?_ (all_cons 8 ?_ (all_cons 9 ?_ (all_cons 10 ?_ (all_cons 11 ?_ (all_cons 12 ?_ (all_cons 13 ?_ (all_cons 14 ?_ (all_cons 15 ?_ (all_cons 16 ?_ (all_cons 17 ?_ (all_cons 18 ?_ (all_cons 19 ?_ (all_cons 20 ?_ (all_cons 21 ?_ (all_cons 22 ?_ (all_cons 23 ?_ (all_cons 24 ?_ (all_cons 25 ?_ (all_cons 26 ?_ (all_cons 27 ?_ (all_cons 28 ?_ (all_cons 29 ?_ (all_cons 30 ?_ (all_cons 31 ?_ (all_cons 32 ?_ (all_done 33)))))))))))))))))))))))))))))))))
    · intro o ho fs W HFi HAf HJ A HA HZ K' HK
      have z1 : A.tmps[1]? = some _ := HZ.out 1 (by decide)
      clear HAf HA HZ
      cases ho
      go_simp
      exact HK.out _ (by rw [upd_map fs (by decide)]; exact HJ.out)
    · intro o ho fs W HFi HAf HJ A HA HZ K' HK
      have f0 : fs 0 = true := by cases ho; exact HAf.out ⟨0, .data⟩ (by simp) rfl
      have s0 := HA.out 0 36 (by decide) f0 rfl
      simp only [List.getD_cons_zero] at s0
      clear HAf HA HZ f0
      obtain ⟨P, HP, hP0⟩ := HJ.out
      obtain ⟨c0, c1, c2, c3, -⟩ := four_cells (HP.out.blk 1 rfl)
      cases ho
      go_simp
      exact HK.out _ (by rw [upd_map fs (by decide)]; exact HJ.out)
    · intro o ho fs W HFi HAf HJ A HA HZ K' HK
      have f1 : fs 1 = true := by cases ho; exact HAf.out ⟨1, .data⟩ (by simp) rfl
      have s1 := HA.out 1 37 (by decide) f1 rfl
      simp only [List.getD_cons_succ, List.getD_cons_zero] at s1
      clear HAf HA HZ f1
      cases ho
      go_simp
      exact HK.out _ (by rw [upd_map fs (by decide)]; exact HJ.out)
    · intro o ho fs W HFi HAf HJ A HA HZ K' HK
      have f2 : fs 2 = true := by cases ho; exact HAf.out ⟨2, .data⟩ (by simp) rfl
      have s2 := HA.out 2 38 (by decide) f2 rfl
      simp only [List.getD_cons_succ, List.getD_cons_zero] at s2
      clear HAf HA HZ f2
      cases ho
      go_simp
      exact HK.out _ (by rw [upd_map fs (by decide)]; exact HJ.out)
    · intro o ho fs W HFi HAf HJ A HA HZ K' HK
      have z1 : A.tmps[1]? = some _ := HZ.out 1 (by decide)
      have f3 : fs 3 = true := by cases ho; exact HAf.out ⟨3, .guard⟩ (by simp) rfl
      have s3 := HA.out 3 39 (by decide) f3 rfl
      simp only [List.getD_cons_succ, List.getD_cons_zero] at s3
      clear HAf HA HZ f3
      cases ho
      go_simp
      exact HK.out _ (by rw [upd_map fs (by decide)]; exact HJ.out)
    · intro o ho fs W HFi HAf HJ A HA HZ K' HK
      have f4 : fs 4 = true := by cases ho; exact HAf.out ⟨4, .data⟩ (by simp) rfl
      have s4 := HA.out 4 40 (by decide) f4 rfl
      simp only [List.getD_cons_succ, List.getD_cons_zero] at s4
      have f3 : fs 3 = true := by cases ho; exact HAf.out ⟨3, .guard⟩ (by simp) rfl
      have s3 := HA.out 3 39 (by decide) f3 rfl
      simp only [List.getD_cons_succ, List.getD_cons_zero] at s3
      clear HAf HA HZ f4 f3
      obtain ⟨P, HP, hP0⟩ := HJ.out
      obtain ⟨c0, c1, c2, c3, -⟩ := four_cells (HP.out.blk 1 rfl)
      cases ho
      go_simp
      exact HK.out _ (by rw [upd_map fs (by decide)]; exact HJ.out)
    · intro o ho fs W HFi HAf HJ A HA HZ K' HK
      have f5 : fs 5 = true := by cases ho; exact HAf.out ⟨5, .data⟩ (by simp) rfl
      have s5 := HA.out 5 41 (by decide) f5 rfl
      simp only [List.getD_cons_succ, List.getD_cons_zero] at s5
      have f3 : fs 3 = true := by cases ho; exact HAf.out ⟨3, .guard⟩ (by simp) rfl
      have s3 := HA.out 3 39 (by decide) f3 rfl
      simp only [List.getD_cons_succ, List.getD_cons_zero] at s3
      clear HAf HA HZ f5 f3
      cases ho
      go_simp
      exact HK.out _ (by rw [upd_map fs (by decide)]; exact HJ.out)
    · intro o ho fs W HFi HAf HJ A HA HZ K' HK
      have f6 : fs 6 = true := by cases ho; exact HAf.out ⟨6, .data⟩ (by simp) rfl
      have s6 := HA.out 6 42 (by decide) f6 rfl
      simp only [List.getD_cons_succ, List.getD_cons_zero] at s6
      have f3 : fs 3 = true := by cases ho; exact HAf.out ⟨3, .guard⟩ (by simp) rfl
      have s3 := HA.out 3 39 (by decide) f3 rfl
      simp only [List.getD_cons_succ, List.getD_cons_zero] at s3
      clear HAf HA HZ f6 f3
      cases ho
      go_simp
      exact HK.out _ (by rw [upd_map fs (by decide)]; exact HJ.out)
    · intro o ho fs W HFi HAf HJ A HA HZ K' HK
      have f3 : fs 3 = true := by cases ho; exact HAf.out ⟨3, .data⟩ (by simp) rfl
      have s3 := HA.out 3 39 (by decide) f3 rfl
      simp only [List.getD_cons_succ, List.getD_cons_zero] at s3
      have f7 : fs 7 = true := by cases ho; exact HAf.out ⟨7, .data⟩ (by simp) rfl
      have s7 := HA.out 7 43 (by decide) f7 rfl
      simp only [List.getD_cons_succ, List.getD_cons_zero] at s7
      clear HAf HA HZ f3 f7
      cases ho
      go_simp
      exact HK.out _ (by rw [upd_map fs (by decide)]; exact HJ.out)
    · intro o ho fs W HFi HAf HJ A HA HZ K' HK
      have f8 : fs 8 = true := by cases ho; exact HAf.out ⟨8, .data⟩ (by simp) rfl
      have s8 := HA.out 8 44 (by decide) f8 rfl
      simp only [List.getD_cons_succ, List.getD_cons_zero] at s8
      clear HAf HA HZ f8
      cases ho
      go_simp
      exact HK.out _ (by rw [upd_map fs (by decide)]; exact HJ.out)
    · intro o ho fs W HFi HAf HJ A HA HZ K' HK
      have z3 : A.tmps[3]? = some _ := HZ.out 3 (by decide)
      have f9 : fs 9 = true := by cases ho; exact HAf.out ⟨9, .chain⟩ (by simp) rfl
      have s9 := HA.out 9 45 (by decide) f9 rfl
      simp only [List.getD_cons_succ, List.getD_cons_zero] at s9
      clear HAf HA HZ f9
      cases ho
      have hfi := HFi.out
      obtain ⟨P, HP, hP0⟩ := HJ.out
      obtain rfl : P = 0 := hP0 (by rw [List.map_singleton, hfi])
      clear hP0
      go_simp
      refine (run_t _ namC named_t (w.heap.size + 1) tx 0 (.map none) W (HP.out.blk 0 rfl) (by omega) (Nat.zero_le _)).mono ?_
      rintro e w' ⟨rfl, hr, ho⟩
      rw [List.drop_zero] at *
      exact HK.out _ ⟨_, Lib.hid (HP.out.call 0 ho hr (by refine ⟨?_, ?_, trivial⟩ <;> (simp only [Fq.apart]; first | omega | (intro b h1 h2; omega) | (intro b h1; omega) | (intro b h1 h2 h3; omega)))), fun h => by rw [List.map_singleton, upd_at] at h; cases h⟩
    · intro o ho fs W HFi HAf HJ A HA HZ K' HK
      have z1 : A.tmps[1]? = some _ := HZ.out 1 (by decide)
      have f9 : fs 9 = true := by cases ho; exact HAf.out ⟨9, .guard⟩ (by simp) rfl
      have s9 := HA.out 9 45 (by decide) f9 rfl
      simp only [List.getD_cons_succ, List.getD_cons_zero] at s9
      clear HAf HA HZ f9
      cases ho
      go_simp
      exact HK.out _ (by rw [upd_map fs (by decide)]; exact HJ.out)
    · intro o ho fs W HFi HAf HJ A HA HZ K' HK
      have f11 : fs 11 = true := by cases ho; exact HAf.out ⟨11, .data⟩ (by simp) rfl
      have s11 := HA.out 11 47 (by decide) f11 rfl
      simp only [List.getD_cons_succ, List.getD_cons_zero] at s11
      have f9 : fs 9 = true := by cases ho; exact HAf.out ⟨9, .guard⟩ (by simp) rfl
      have s9 := HA.out 9 45 (by decide) f9 rfl
      simp only [List.getD_cons_succ, List.getD_cons_zero] at s9
      clear HAf HA HZ f11 f9
      obtain ⟨P, HP, hP0⟩ := HJ.out
      obtain ⟨c0, c1, c2, c3, -⟩ := four_cells (HP.out.blk 1 rfl)
      cases ho
      go_simp
      exact HK.out _ (by rw [upd_map fs (by decide)]; exact HJ.out)
    · intro o ho fs W HFi HAf HJ A HA HZ K' HK
      have f10 : fs 10 = true := by cases ho; exact HAf.out ⟨10, .data⟩ (by simp) rfl
      have s10 := HA.out 10 46 (by decide) f10 rfl
      simp only [List.getD_cons_succ, List.getD_cons_zero] at s10
      have f12 : fs 12 = true := by cases ho; exact HAf.out ⟨12, .data⟩ (by simp) rfl
      have s12 := HA.out 12 48 (by decide) f12 rfl
      simp only [List.getD_cons_succ, List.getD_cons_zero] at s12
      have f9 : fs 9 = true := by cases ho; exact HAf.out ⟨9, .guard⟩ (by simp) rfl
      have s9 := HA.out 9 45 (by decide) f9 rfl
      simp only [List.getD_cons_succ, List.getD_cons_zero] at s9
      clear HAf HA HZ f10 f12 f9
      cases ho
      go_simp
      exact HK.out _ (by rw [upd_map fs (by decide)]; exact HJ.out)
    · intro o ho fs W HFi HAf HJ A HA HZ K' HK
      have f9 : fs 9 = true := by cases ho; exact HAf.out ⟨9, .data⟩ (by simp) rfl
      have s9 := HA.out 9 45 (by decide) f9 rfl
      simp only [List.getD_cons_succ, List.getD_cons_zero] at s9
      have f13 : fs 13 = true := by cases ho; exact HAf.out ⟨13, .data⟩ (by simp) rfl
      have s13 := HA.out 13 49 (by decide) f13 rfl
      simp only [List.getD_cons_succ, List.getD_cons_zero] at s13
      clear HAf HA HZ f9 f13
      cases ho
      go_simp
      exact HK.out _ (by rw [upd_map fs (by decide)]; exact HJ.out)
    · intro o ho fs W HFi HAf HJ A HA HZ K' HK
      have f14 : fs 14 = true := by cases ho; exact HAf.out ⟨14, .data⟩ (by simp) rfl
      have s14 := HA.out 14 50 (by decide) f14 rfl
      simp only [List.getD_cons_succ, List.getD_cons_zero] at s14
      clear HAf HA HZ f14
      cases ho
      go_simp
      exact HK.out _ (by rw [upd_map fs (by decide)]; exact HJ.out)
    · intro o ho fs W HFi HAf HJ A HA HZ K' HK
      have z1 : A.tmps[1]? = some _ := HZ.out 1 (by decide)
      have f15 : fs 15 = true := by cases ho; exact HAf.out ⟨15, .guard⟩ (by simp) rfl
      have s15 := HA.out 15 51 (by decide) f15 rfl
      simp only [List.getD_cons_succ, List.getD_cons_zero] at s15
      clear HAf HA HZ f15
      cases ho
      go_simp
      exact HK.out _ (by rw [upd_map fs (by decide)]; exact HJ.out)
    · intro o ho fs W HFi HAf HJ A HA HZ K' HK
      have f16 : fs 16 = true := by cases ho; exact HAf.out ⟨16, .data⟩ (by simp) rfl
      have s16 := HA.out 16 52 (by decide) f16 rfl
      simp only [List.getD_cons_succ, List.getD_cons_zero] at s16
      have f15 : fs 15 = true := by cases ho; exact HAf.out ⟨15, .guard⟩ (by simp) rfl
      have s15 := HA.out 15 51 (by decide) f15 rfl
      simp only [List.getD_cons_succ, List.getD_cons_zero] at s15
      clear HAf HA HZ f16 f15
      obtain ⟨P, HP, hP0⟩ := HJ.out
      obtain ⟨c0, c1, c2, c3, -⟩ := four_cells (HP.out.blk 1 rfl)
      cases ho
      go_simp
      exact HK.out _ (by rw [upd_map fs (by decide)]; exact HJ.out)
    · intro o ho fs W HFi HAf HJ A HA HZ K' HK
      have f17 : fs 17 = true := by cases ho; exact HAf.out ⟨17, .data⟩ (by simp) rfl
      have s17 := HA.out 17 53 (by decide) f17 rfl
      simp only [List.getD_cons_succ, List.getD_cons_zero] at s17
      have f15 : fs 15 = true := by cases ho; exact HAf.out ⟨15, .guard⟩ (by simp) rfl
      have s15 := HA.out 15 51 (by decide) f15 rfl
      simp only [List.getD_cons_succ, List.getD_cons_zero] at s15
      clear HAf HA HZ f17 f15
      cases ho
      go_simp
      exact HK.out _ (by rw [upd_map fs (by decide)]; exact HJ.out)
    · intro o ho fs W HFi HAf HJ A HA HZ K' HK
      have f18 : fs 18 = true := by cases ho; exact HAf.out ⟨18, .data⟩ (by simp) rfl
      have s18 := HA.out 18 54 (by decide) f18 rfl
      simp only [List.getD_cons_succ, List.getD_cons_zero] at s18
      have f15 : fs 15 = true := by cases ho; exact HAf.out ⟨15, .guard⟩ (by simp) rfl
      have s15 := HA.out 15 51 (by decide) f15 rfl
      simp only [List.getD_cons_succ, List.getD_cons_zero] at s15
      clear HAf HA HZ f18 f15
      cases ho
      go_simp
      exact HK.out _ (by rw [upd_map fs (by decide)]; exact HJ.out)
    · intro o ho fs W HFi HAf HJ A HA HZ K' HK
      have f19 : fs 19 = true := by cases ho; exact HAf.out ⟨19, .data⟩ (by simp) rfl
      have s19 := HA.out 19 55 (by decide) f19 rfl
      simp only [List.getD_cons_succ, List.getD_cons_zero] at s19
      have f15 : fs 15 = true := by cases ho; exact HAf.out ⟨15, .chain⟩ (by simp) rfl
      have s15 := HA.out 15 51 (by decide) f15 rfl
      simp only [List.getD_cons_succ, List.getD_cons_zero] at s15
      clear HAf HA HZ f19 f15
      cases ho
      go_simp
      exact HK.out _ (by rw [upd_map fs (by decide)]; exact HJ.out)
    · intro o ho fs W HFi HAf HJ A HA HZ K' HK
      have z1 : A.tmps[1]? = some _ := HZ.out 1 (by decide)
      have f20 : fs 20 = true := by cases ho; exact HAf.out ⟨20, .guard⟩ (by simp) rfl
      have s20 := HA.out 20 56 (by decide) f20 rfl
      simp only [List.getD_cons_succ, List.getD_cons_zero] at s20
      clear HAf HA HZ f20
      cases ho
      go_simp
      exact HK.out _ (by rw [upd_map fs (by decide)]; exact HJ.out)
    · intro o ho fs W HFi HAf HJ A HA HZ K' HK
      have f21 : fs 21 = true := by cases ho; exact HAf.out ⟨21, .data⟩ (by simp) rfl
      have s21 := HA.out 21 57 (by decide) f21 rfl
      simp only [List.getD_cons_succ, List.getD_cons_zero] at s21
      have f20 : fs 20 = true := by cases ho; exact HAf.out ⟨20, .guard⟩ (by simp) rfl
      have s20 := HA.out 20 56 (by decide) f20 rfl
      simp only [List.getD_cons_succ, List.getD_cons_zero] at s20
      clear HAf HA HZ f21 f20
      obtain ⟨P, HP, hP0⟩ := HJ.out
      obtain ⟨c0, c1, c2, c3, -⟩ := four_cells (HP.out.blk 1 rfl)
      cases ho
      go_simp
      exact HK.out _ (by rw [upd_map fs (by decide)]; exact HJ.out)
    · intro o ho fs W HFi HAf HJ A HA HZ K' HK
      have f22 : fs 22 = true := by cases ho; exact HAf.out ⟨22, .data⟩ (by simp) rfl
      have s22 := HA.out 22 58 (by decide) f22 rfl
      simp only [List.getD_cons_succ, List.getD_cons_zero] at s22
      have f20 : fs 20 = true := by cases ho; exact HAf.out ⟨20, .guard⟩ (by simp) rfl
      have s20 := HA.out 20 56 (by decide) f20 rfl
      simp only [List.getD_cons_succ, List.getD_cons_zero] at s20
      clear HAf HA HZ f22 f20
      cases ho
      go_simp
      exact HK.out _ (by rw [upd_map fs (by decide)]; exact HJ.out)
    · intro o ho fs W HFi HAf HJ A HA HZ K' HK
      have f23 : fs 23 = true := by cases ho; exact HAf.out ⟨23, .data⟩ (by simp) rfl
      have s23 := HA.out 23 59 (by decide) f23 rfl
      simp only [List.getD_cons_succ, List.getD_cons_zero] at s23
      have f20 : fs 20 = true := by cases ho; exact HAf.out ⟨20, .guard⟩ (by simp) rfl
      have s20 := HA.out 20 56 (by decide) f20 rfl
      simp only [List.getD_cons_succ, List.getD_cons_zero] at s20
      clear HAf HA HZ f23 f20
      cases ho
      go_simp
      exact HK.out _ (by rw [upd_map fs (by decide)]; exact HJ.out)
    · intro o ho fs W HFi HAf HJ A HA HZ K' HK
      have f24 : fs 24 = true := by cases ho; exact HAf.out ⟨24, .data⟩ (by simp) rfl
      have s24 := HA.out 24 60 (by decide) f24 rfl
      simp only [List.getD_cons_succ, List.getD_cons_zero] at s24
      have f20 : fs 20 = true := by cases ho; exact HAf.out ⟨20, .chain⟩ (by simp) rfl
      have s20 := HA.out 20 56 (by decide) f20 rfl
      simp only [List.getD_cons_succ, List.getD_cons_zero] at s20
      clear HAf HA HZ f24 f20
      cases ho
      go_simp
      exact HK.out _ (by rw [upd_map fs (by decide)]; exact HJ.out)
    · intro o ho fs W HFi HAf HJ A HA HZ K' HK
      have z1 : A.tmps[1]? = some _ := HZ.out 1 (by decide)
      have f25 : fs 25 = true := by cases ho; exact HAf.out ⟨25, .guard⟩ (by simp) rfl
      have s25 := HA.out 25 61 (by decide) f25 rfl
      simp only [List.getD_cons_succ, List.getD_cons_zero] at s25
      clear HAf HA HZ f25
      cases ho
      go_simp
      exact HK.out _ (by rw [upd_map fs (by decide)]; exact HJ.out)
    · intro o ho fs W HFi HAf HJ A HA HZ K' HK
      have f26 : fs 26 = true := by cases ho; exact HAf.out ⟨26, .data⟩ (by simp) rfl
      have s26 := HA.out 26 62 (by decide) f26 rfl
      simp only [List.getD_cons_succ, List.getD_cons_zero] at s26
      have f25 : fs 25 = true := by cases ho; exact HAf.out ⟨25, .guard⟩ (by simp) rfl
      have s25 := HA.out 25 61 (by decide) f25 rfl
      simp only [List.getD_cons_succ, List.getD_cons_zero] at s25
      clear HAf HA HZ f26 f25
      obtain ⟨P, HP, hP0⟩ := HJ.out
      obtain ⟨c0, c1, c2, c3, -⟩ := four_cells (HP.out.blk 1 rfl)
      cases ho
      go_simp
      exact HK.out _ (by rw [upd_map fs (by decide)]; exact HJ.out)
    · intro o ho fs W HFi HAf HJ A HA HZ K' HK
      have f27 : fs 27 = true := by cases ho; exact HAf.out ⟨27, .data⟩ (by simp) rfl
      have s27 := HA.out 27 63 (by decide) f27 rfl
      simp only [List.getD_cons_succ, List.getD_cons_zero] at s27
      have f25 : fs 25 = true := by cases ho; exact HAf.out ⟨25, .guard⟩ (by simp) rfl
      have s25 := HA.out 25 61 (by decide) f25 rfl
      simp only [List.getD_cons_succ, List.getD_cons_zero] at s25
      clear HAf HA HZ f27 f25
      cases ho
      go_simp
      exact HK.out _ (by rw [upd_map fs (by decide)]; exact HJ.out)
    · intro o ho fs W HFi HAf HJ A HA HZ K' HK
      have f28 : fs 28 = true := by cases ho; exact HAf.out ⟨28, .data⟩ (by simp) rfl
      have s28 := HA.out 28 64 (by decide) f28 rfl
      simp only [List.getD_cons_succ, List.getD_cons_zero] at s28
      have f25 : fs 25 = true := by cases ho; exact HAf.out ⟨25, .guard⟩ (by simp) rfl
      have s25 := HA.out 25 61 (by decide) f25 rfl
      simp only [List.getD_cons_succ, List.getD_cons_zero] at s25
      clear HAf HA HZ f28 f25
      cases ho
      go_simp
      exact HK.out _ (by rw [upd_map fs (by decide)]; exact HJ.out)
    · intro o ho fs W HFi HAf HJ A HA HZ K' HK
      have f25 : fs 25 = true := by cases ho; exact HAf.out ⟨25, .data⟩ (by simp) rfl
      have s25 := HA.out 25 61 (by decide) f25 rfl
      simp only [List.getD_cons_succ, List.getD_cons_zero] at s25
      have f29 : fs 29 = true := by cases ho; exact HAf.out ⟨29, .data⟩ (by simp) rfl
      have s29 := HA.out 29 65 (by decide) f29 rfl
      simp only [List.getD_cons_succ, List.getD_cons_zero] at s29
      have f20 : fs 20 = true := by cases ho; exact HAf.out ⟨20, .guard⟩ (by simp) rfl
      have s20 := HA.out 20 56 (by decide) f20 rfl
      simp only [List.getD_cons_succ, List.getD_cons_zero] at s20
      clear HAf HA HZ f25 f29 f20
      cases ho
      go_simp
      exact HK.out _ (by rw [upd_map fs (by decide)]; exact HJ.out)
    · intro o ho fs W HFi HAf HJ A HA HZ K' HK
      have f20 : fs 20 = true := by cases ho; exact HAf.out ⟨20, .data⟩ (by simp) rfl
      have s20 := HA.out 20 56 (by decide) f20 rfl
      simp only [List.getD_cons_succ, List.getD_cons_zero] at s20
      have f30 : fs 30 = true := by cases ho; exact HAf.out ⟨30, .data⟩ (by simp) rfl
      have s30 := HA.out 30 66 (by decide) f30 rfl
      simp only [List.getD_cons_succ, List.getD_cons_zero] at s30
      have f15 : fs 15 = true := by cases ho; exact HAf.out ⟨15, .guard⟩ (by simp) rfl
      have s15 := HA.out 15 51 (by decide) f15 rfl
      simp only [List.getD_cons_succ, List.getD_cons_zero] at s15
      clear HAf HA HZ f20 f30 f15
      cases ho
      go_simp
      exact HK.out _ (by rw [upd_map fs (by decide)]; exact HJ.out)
    · intro o ho fs W HFi HAf HJ A HA HZ K' HK
      have f15 : fs 15 = true := by cases ho; exact HAf.out ⟨15, .data⟩ (by simp) rfl
      have s15 := HA.out 15 51 (by decide) f15 rfl
      simp only [List.getD_cons_succ, List.getD_cons_zero] at s15
      have f31 : fs 31 = true := by cases ho; exact HAf.out ⟨31, .data⟩ (by simp) rfl
      have s31 := HA.out 31 67 (by decide) f31 rfl
      simp only [List.getD_cons_succ, List.getD_cons_zero] at s31
      clear HAf HA HZ f15 f31
      cases ho
      go_simp
      exact HK.out _ (by rw [upd_map fs (by decide)]; exact HJ.out)
  · intro W hJ
    simp only [canon, Act.put, List.getD_cons_succ, List.getD_cons_zero, List.drop_succ_cons, List.drop_zero, List.setIfInBounds_toArray, List.set_cons_zero, List.set_cons_succ]
    obtain ⟨P, HP, -⟩ := hJ
    have HW := Lib.hid (HP.out.base 2 rfl)
    clear HP
    go_wp2_with fail
    go_ret
    exact ⟨rfl, HW.out.below (Nat.le_refl _) (fun _ _ h => h)⟩
theorem all_tw {q : UInt8 → Bool} : ∀ {l : List UInt8}, l.takeWhile q = l ↔ l.all q = true
  | [] => by simp
  | c :: l => by
    rw [List.takeWhile_cons, List.all_cons]
    cases h : q c with
    | true => simp [all_tw (l := l)]
    | false => simp
theorem LexValid_any (t : Tok) (w : World) (hl : t.tx.length ≤ 1000000) (hT : ∀ W, Below w.heap.size w W → As W) :
    Calls Tryz.prog 18 #[.agg #[.int .i64 t.k, .string (ba t.tx), .int .u64 (t.n : Int), .int .i64 t.pos]] w fun e w' => e = .returned (.bool (validTk t)) ∧ Below w.heap.size w w' := by
  obtain ⟨k, tx, n, pos⟩ := t
  have hv : validTk ⟨k, tx, n, pos⟩ = if k = 3 then tx.isEmpty && decide (n ≤ 9223372036854775808) else if n ≠ 0 then false else if k = 1 then nameB ⟨tx.toArray⟩ && !resB tx else if k = 2 then varB tx else if k = 4 then plainB tx else if k = 5 then resB tx else if k = 6 then signB tx else false := rfl
  rw [hv]
  clear hv
  by_cases h3 : k = 3
  · rw [if_pos h3]
    by_cases ht : tx = []
    · by_cases hn : n ≤ 9223372036854775808
      · have := Valid_3b k tx n pos w h3 ht hn
        rw [show (tx.isEmpty && decide (n ≤ 9223372036854775808)) = true by rw [ht, decide_eq_true hn]; rfl]
        exact this
      · have := Valid_3c k tx n pos w h3 ht hn
        rw [show (tx.isEmpty && decide (n ≤ 9223372036854775808)) = false by rw [decide_eq_false hn, Bool.and_false]]
        exact this
    · have := Valid_3a k tx n pos w h3 ht
      rw [show (tx.isEmpty && decide (n ≤ 9223372036854775808)) = false by cases tx with | nil => exact absurd rfl ht | cons c r => rfl]
      exact this
  rw [if_neg h3]
  by_cases hn : n = 0
  rotate_left
  · rw [if_pos hn]
    exact Valid_nz k tx n pos w h3 hn
  rw [if_neg (by rw [hn]; exact fun h => h rfl)]
  by_cases h1 : k = 1
  · rw [if_pos h1]
    cases hB : nameB ⟨tx.toArray⟩ with
    | true => rw [Bool.true_and]; exact Valid_1a k tx n pos w h1 hn hB hl hT
    | false => rw [Bool.false_and]; exact Valid_1b k tx n pos w h1 hn hB hl hT
  rw [if_neg h1]
  by_cases h2 : k = 2
  · rw [if_pos h2]
    by_cases ht : tx = []
    · have := Valid_2emp k tx n pos w h2 hn ht
      rw [show varB tx = false by rw [ht]; rfl]
      exact this
    by_cases hw : tx.length ≤ 32
    rotate_left
    · have := Valid_2long k tx n pos w h2 hn ht hw
      rw [show varB tx = false by unfold varB; rw [decide_eq_false hw, Bool.and_false, Bool.false_and, Bool.false_and]]
      exact this
    by_cases hq : tx.takeWhile namC = tx
    rotate_left
    · have := Valid_2not k tx n pos w h2 hn ht hw hq
      rw [show varB tx = false by
        unfold varB
        rw [show tx.all namC = false from (Bool.not_eq_true _).mp fun h => hq (all_tw.2 h), Bool.and_false, Bool.false_and]]
      exact this
    cases tx with
    | nil => exact absurd rfl ht
    | cons c r =>
      have hvb : varB (c :: r) = (capC c || decide (c.toNat = 95)) := by
        unfold varB
        rw [all_tw.1 hq, decide_eq_true hw, decide_eq_true (by simp)]
        rfl
      rw [hvb]
      have hcc : ∀ h, (ba (c :: r))[0]'h = c := fun _ => rfl
      by_cases h95 : c.toNat = 95
      · rw [decide_eq_true h95, Bool.or_true]
        exact Valid_2us k _ n pos w h2 hn ht hw hq c hcc h95
      · rw [decide_eq_false h95, Bool.or_false]
        by_cases h65 : 65 ≤ c.toNat
        · by_cases h90 : c.toNat ≤ 90
          · rw [(capC_iff c).2 ⟨h65, h90⟩]
            exact Valid_2cap k _ n pos w h2 hn ht hw hq c hcc h65 h90
          · rw [show capC c = false from (Bool.not_eq_true _).mp fun h => h90 ((capC_iff c).1 h).2]
            exact Valid_2hi k _ n pos w h2 hn ht hw hq c hcc h95 (by omega)
        · rw [show capC c = false from (Bool.not_eq_true _).mp fun h => h65 ((capC_iff c).1 h).1]
          exact Valid_2lo k _ n pos w h2 hn ht hw hq c hcc (by omega)
  rw [if_neg h2]
  by_cases h4 : k = 4
  · rw [if_pos h4]; exact Valid_4 k tx n pos w h4 hn
  rw [if_neg h4]
  by_cases h5 : k = 5
  · rw [if_pos h5]; exact Valid_5 k tx n pos w h5 hn hl hT
  rw [if_neg h5]
  by_cases h6 : k = 6
  · rw [if_pos h6]
    by_cases ht : tx = []
    · have := Valid_6a k tx n pos w h6 hn ht
      rw [show signB tx = false by rw [ht]; decide]
      exact this
    by_cases hs : signN tx = tx.length
    · have := Valid_6b k tx n pos w h6 hn hl ht hs
      rw [signB_eq tx hs ht]; exact this
    · have := Valid_6c k tx n pos w h6 hn hl ht hs
      rw [show signB tx = false from (Bool.not_eq_true _).mp fun h => hs (signB_ok h).1]
      exact this
  rw [if_neg h6]
  exact Valid_other k tx n pos w (by omega) hn
end Go.Proofs.YtmcnhggpmlhgeaaGreatDoor
