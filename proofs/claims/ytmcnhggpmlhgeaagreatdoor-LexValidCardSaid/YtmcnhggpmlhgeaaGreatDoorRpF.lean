/-
  Walks: Replace of a built replacer: long texts.
-/
import Derived.Test.YtmcnhggpmlhgeaaGreatDoorRpE
import Derived.Test.YtmcnhggpmlhgeaaGreatDoorShelf
namespace Go.Proofs.YtmcnhggpmlhgeaaGreatDoor
open Go.RowKit
def cntE (s : List UInt8) : Nat → Nat
  | 0 => 0
  | 1 => s.count 10
  | 2 => s.count 10 + s.count 34
  | _ => s.count 10 + s.count 34 + s.count 92
theorem count_call (s : List UInt8) (c : UInt8) (w : World) : Calls Tryz.prog 181 #[.string (ba s), .string ⟨#[c]⟩] w fun e w' => e = .returned (.int .i64 ((s.count c : Nat) : Int)) ∧ w' = w := Tryz.strings_Count_one (ba s) c w
set_option maxRecDepth 100000 in
set_option maxHeartbeats 16000000 in
theorem repA (M : Nat) (s : List UInt8) (w : World) (hs : s.length ≤ 1000000) (hk : PB M 3 w) (hlt : 24 ≤ s.length) :
    Calls Tryz.prog 179 #[.pointer (some ⟨M + 1, 0, none⟩), .string (ba s)] w fun e w' => e = .returned (.string (ba (escT s))) ∧ Below w.heap.size w w' := by
  have HP := Lib.hid hk
  clear hk
  have s1 : ((ba s).size : Int) = (s.length : Int) := by rw [ba_size]
  have s2 : (ba s).size = s.length := by rw [ba_size]
  have hMw : M + 1 < w.heap.size := by obtain ⟨f, hT, -⟩ := HP.out; exact hT.lt
  have hsn : ∀ W : World, (binOp .neq 50 (.slice none 0 0) (.slice none 0 0)).run Tryz.prog W = .ok (.bool false) W := fun W => by kernel_rfl
  have hss : ∀ (W : World) (a : Addr) (n c : Nat), (binOp .neq 50 (.slice (some a) n c) (.slice none 0 0)).run Tryz.prog W = .ok (.bool true) W := fun W a n c => by kernel_rfl
  obtain ⟨i0, hi0, hk0⟩ := Option.map_eq_some_iff.1 Tryz.info5
  simp only [Prod.mk.injEq] at hk0
  obtain ⟨iz0, iz1, iz2⟩ := hk0
  have hmk : ∀ (W : World) (n : Nat), n ≤ 2000000 → (Instr.makeSlice 50 (.int .i64 (n : Int)) (.int .i64 (n : Int))).run Tryz.prog W = .ok (.slice (some ⟨W.heap.size, 0, none⟩) n n) (W.alloc (.cells (Array.replicate n (u8V 0)) 5 (0, 0))) := fun W n hn => by
    rw [run_makeSlice (w := W) 50 5 i0 (.int .u8 0) Tryz.underlying50 hi0 iz0 .i64 .i64 n n (by omega) (by omega) (by rw [iz1]; omega) (by rw [iz2]; omega) (by omega), iz1]
    have e : madeCells (Value.int .u8 0).cells ((n : Int).toNat * 1) = Array.replicate n (u8V 0) := by
      apply Array.toList_inj.1
      rw [Nat.mul_one, Int.toNat_natCast, show (Value.int .u8 0).cells = #[Value.int .u8 0] from rfl, toList_madeCells_one, Array.toList_replicate]
      rfl
    rw [e]
    rfl
  have HMk := Lib.hid hmk
  clear hmk hi0 iz0 iz1 iz2
  go_enter Tryz.func179, Tryz.ntmps179
  have x24 : (24 : Int) ≤ (s.length : Int) := by omega
  obtain ⟨crw, q0w, q1w, q2w⟩ : w.cell? ⟨M + 1, 256, none⟩ = some (.slice (some ⟨M, 0, none⟩) 3 3) ∧ w.cell? ⟨M, 0, none⟩ = some (.string ⟨#[10]⟩) ∧ w.cell? ⟨M, 1, none⟩ = some (.string ⟨#[34]⟩) ∧ w.cell? ⟨M, 2, none⟩ = some (.string ⟨#[92]⟩) := by
    obtain ⟨f, hT, hR, -⟩ := HP.out
    exact ⟨hT.row, cells_of hR 0, cells_of hR 1, cells_of hR 2⟩
  have hcl : ∀ c : UInt8, s.count c ≤ s.length := fun c => List.count_le_length
  go_wp2_with fail
  go_loopw [5, 6, 32] (fun n a i wv => ∃ k : Nat, k ≤ 3 ∧ i = .int .i64 k ∧ n = .int .i64 ((s.length + cntE s k : Nat) : Int) ∧ a = .bool (decide (0 < cntE s k)) ∧ Hid (Below w.heap.size w wv)) (fun _ _ i _ => 3 - (intOf i).toNat)
  case atStart => exact ⟨0, Nat.zero_le _, rfl, rfl, rfl, Lib.hid (Below.refl _ _)⟩
  case round =>
    obtain ⟨k, hk, rfl, rfl, rfl, HBW0⟩ := hrel
    generalize wr = wv at *
    have HPv := Lib.hid (HP.out.ch (Ch.of_below (C := fun _ => False) HBW0.out) (fun _ _ h => h))
    clear HP
    have cr := (cellsB HBW0.out (Nat.le_refl _) (M + 1) 256 hMw).trans crw
    have q0 := (cellsB HBW0.out (Nat.le_refl _) M 0 (by omega)).trans q0w
    have q1 := (cellsB HBW0.out (Nat.le_refl _) M 1 (by omega)).trans q1w
    have q2 := (cellsB HBW0.out (Nat.le_refl _) M 2 (by omega)).trans q2w
    have hMv : M + 1 < wv.heap.size := by have := HBW0.out.size; omega
    clear crw q0w q1w q2w
    obtain rfl | rfl | rfl | rfl : k = 0 ∨ k = 1 ∨ k = 2 ∨ k = 3 := by omega
    · have hle : cntE s 0 ≤ 0 * s.length := by have := hcl 10; have := hcl 34; have := hcl 92; simp only [cntE]; omega
      have hE1 : cntE s 1 = cntE s 0 + s.count 10 := by simp only [cntE] <;> omega
      have hq1 := hcl 10
      have hcc := fun W => count_call s 10 W
      have HCC := Lib.hid hcc
      clear hcc
      generalize s.count 10 = q at *
      generalize hn : s.length + cntE s 0 = n
      generalize hm : cntE s 0 = m at *
      have HE := Lib.hid (show s.length + cntE s 1 = n + q by omega)
      have HE2 := Lib.hid (show cntE s 1 = m + q from hE1)
      have hnl : n ≤ 4 * s.length := by omega
      clear hE1 hn hm
      go_wp2_with fail
      refine (HCC.out _).mono ?_
      rintro e w1 ⟨rfl, rfl⟩
      by_cases hq : q = 0
      · have xq : ((q : Int) == 0) = true := by simp; omega
        have HR := Lib.hid (show n + q = n by omega)
        have HR2 := Lib.hid (show m + q = m by omega)
        clear hq
        go_wp2_with fail
        go_roundw
        case rel => exact ⟨1, by omega, by go_num, by rw [HE.out, HR.out], by rw [HE2.out, HR2.out], HBW0⟩
        case measure => simp only [intOf]; omega
      · have xq : ((q : Int) == 0) = false := by simp; omega
        have HR2 := Lib.hid (show decide (0 < m + q) = true by simp; omega)
        clear hq
        have hc10 : ∀ h, (((⟨#[10]⟩ : ByteArray)[0]'h).toNat : Int) = 10 := fun _ => rfl
        obtain ⟨b, cap, c0⟩ : ∃ b cap, w1.cell? ⟨M + 1, 10, none⟩ = some (.slice (some ⟨b, 0, none⟩) 2 cap) := by
          rcases pb_cell HPv.out 10 with ⟨_, b, cap, h, _⟩ | ⟨h, _⟩
          · exact ⟨b, cap, h⟩
          · exact absurd h (by decide)
        have hw1 : IntKind.i64.wrap 1 = 1 := by decide +kernel
        have hwq : IntKind.i64.wrap ((n : Int) + (q : Int)) = (n : Int) + (q : Int) := by rw [IntKind.wrap_i64]; omega
        have hwq2 : IntKind.i64.wrap (q : Int) = (q : Int) := by rw [IntKind.wrap_i64]; omega
        go_upto_region 9 with (fail)
        have HC0 := Lib.hid (show w1.drew.cell? ⟨M + 1, 10, none⟩ = some (.slice (some ⟨b, 0, none⟩) 2 cap) from c0)
        clear c0
        have HJ0 := Lib.hid (show w1.drew = w1.drew from rfl)
        refine' wp_region_fix (by kernel_rfl) 13 [some 41, some 42, some 43, some 44, some 45, some 46, some 47, some 48, some 49, some 50, some 51, some 52, some 53] [_, _, _, _, _, _, _, _, _, _, _, _, _] [] (fun _ W => W = w1.drew) (by kernel_rfl) (by decide) (by kernel_rfl) (by decide) (by rfl) (by decide) (HJ0.out) ?_ ?_
        rotate_left 13
        · refine all_cons 0 ?_ (all_cons 1 ?_ (all_cons 2 ?_ (all_cons 3 ?_ (all_cons 4 ?_ (all_cons 5 ?_ (all_cons 6 ?_ (all_cons 7 ?_ (all_cons 8 ?_ (all_cons 9 ?_ (all_cons 10 ?_ (all_cons 11 ?_ (all_cons 12 ?_ (all_done 13)))))))))))))
          · intro o ho fs W HFi HAf HJ A HA HZ K' HK
            have z5 : A.tmps[5]? = some _ := HZ.out 5 (by decide)
            clear HAf HA HZ
            cases ho
            go_simp
            exact HK.out _ HJ.out
          · intro o ho fs W HFi HAf HJ A HA HZ K' HK
            have z9 : A.tmps[9]? = some _ := HZ.out 9 (by decide)
            clear HAf HA HZ
            cases ho
            go_simp
            exact HK.out _ HJ.out
          · intro o ho fs W HFi HAf HJ A HA HZ K' HK
            have z0 : A.tmps[0]? = some _ := HZ.out 0 (by decide)
            clear HAf HA HZ
            cases ho
            go_simp
            exact HK.out _ HJ.out
          · intro o ho fs W HFi HAf HJ A HA HZ K' HK
            have z8 : A.tmps[8]? = some _ := HZ.out 8 (by decide)
            clear HAf HA HZ
            cases ho
            go_simp
            exact HK.out _ HJ.out
          · intro o ho fs W HFi HAf HJ A HA HZ K' HK
            have f3 : fs 3 = true := by cases ho; exact HAf.out ⟨3, .data⟩ (by simp) rfl
            have s3 := HA.out 3 44 (by decide) f3 rfl
            simp only [List.getD_cons_succ, List.getD_cons_zero] at s3
            clear HAf HA HZ f3
            cases ho
            go_simp
            exact HK.out _ HJ.out
          · intro o ho fs W HFi HAf HJ A HA HZ K' HK
            have f2 : fs 2 = true := by cases ho; exact HAf.out ⟨2, .data⟩ (by simp) rfl
            have s2 := HA.out 2 43 (by decide) f2 rfl
            simp only [List.getD_cons_succ, List.getD_cons_zero] at s2
            clear HAf HA HZ f2
            cases ho
            go_simp
            exact HK.out _ HJ.out
          · intro o ho fs W HFi HAf HJ A HA HZ K' HK
            have f5 : fs 5 = true := by cases ho; exact HAf.out ⟨5, .data⟩ (by simp) rfl
            have s5 := HA.out 5 46 (by decide) f5 rfl
            simp only [List.getD_cons_succ, List.getD_cons_zero] at s5
            clear HAf HA HZ f5
            cases ho
            go_simp
            exact HK.out _ HJ.out
          · intro o ho fs W HFi HAf HJ A HA HZ K' HK
            have f6 : fs 6 = true := by cases ho; exact HAf.out ⟨6, .data⟩ (by simp) rfl
            have s6 := HA.out 6 47 (by decide) f6 rfl
            simp only [List.getD_cons_succ, List.getD_cons_zero] at s6
            have f4 : fs 4 = true := by cases ho; exact HAf.out ⟨4, .data⟩ (by simp) rfl
            have s4 := HA.out 4 45 (by decide) f4 rfl
            simp only [List.getD_cons_succ, List.getD_cons_zero] at s4
            clear HAf HA HZ f6 f4
            cases ho
            go_simp
            exact HK.out _ HJ.out
          · intro o ho fs W HFi HAf HJ A HA HZ K' HK
            have f7 : fs 7 = true := by cases ho; exact HAf.out ⟨7, .data⟩ (by simp) rfl
            have s7 := HA.out 7 48 (by decide) f7 rfl
            simp only [List.getD_cons_succ, List.getD_cons_zero] at s7
            clear HAf HA HZ f7
            have hWW := HJ.out
            have c0 : W.cell? ⟨M + 1, 10, none⟩ = some (.slice (some ⟨b, 0, none⟩) 2 cap) := by rw [hWW]; exact HC0.out
            clear hWW
            cases ho
            go_simp
            exact HK.out _ HJ.out
          · intro o ho fs W HFi HAf HJ A HA HZ K' HK
            have f8 : fs 8 = true := by cases ho; exact HAf.out ⟨8, .data⟩ (by simp) rfl
            have s8 := HA.out 8 49 (by decide) f8 rfl
            simp only [List.getD_cons_succ, List.getD_cons_zero] at s8
            clear HAf HA HZ f8
            cases ho
            go_simp
            exact HK.out _ HJ.out
          · intro o ho fs W HFi HAf HJ A HA HZ K' HK
            have f9 : fs 9 = true := by cases ho; exact HAf.out ⟨9, .data⟩ (by simp) rfl
            have s9 := HA.out 9 50 (by decide) f9 rfl
            simp only [List.getD_cons_succ, List.getD_cons_zero] at s9
            clear HAf HA HZ f9
            cases ho
            go_simp
            exact HK.out _ HJ.out
          · intro o ho fs W HFi HAf HJ A HA HZ K' HK
            have f1 : fs 1 = true := by cases ho; exact HAf.out ⟨1, .data⟩ (by simp) rfl
            have s1 := HA.out 1 42 (by decide) f1 rfl
            simp only [List.getD_cons_succ, List.getD_cons_zero] at s1
            have f10 : fs 10 = true := by cases ho; exact HAf.out ⟨10, .data⟩ (by simp) rfl
            have s10 := HA.out 10 51 (by decide) f10 rfl
            simp only [List.getD_cons_succ, List.getD_cons_zero] at s10
            clear HAf HA HZ f1 f10
            cases ho
            go_simp
            exact HK.out _ HJ.out
          · intro o ho fs W HFi HAf HJ A HA HZ K' HK
            have f0 : fs 0 = true := by cases ho; exact HAf.out ⟨0, .data⟩ (by simp) rfl
            have s0 := HA.out 0 41 (by decide) f0 rfl
            simp only [List.getD_cons_zero] at s0
            have f11 : fs 11 = true := by cases ho; exact HAf.out ⟨11, .data⟩ (by simp) rfl
            have s11 := HA.out 11 52 (by decide) f11 rfl
            simp only [List.getD_cons_succ, List.getD_cons_zero] at s11
            clear HAf HA HZ f0 f11
            cases ho
            go_simp
            exact HK.out _ HJ.out
        · intro W hJ
          simp only [canon, Act.put, List.getD_cons_succ, List.getD_cons_zero, List.drop_succ_cons, List.drop_zero, List.setIfInBounds_toArray, List.set_cons_zero, List.set_cons_succ]
          subst hJ
          go_wp2_with fail
          go_roundw
          case rel => exact ⟨1, by omega, by go_num, by rw [HE.out]; go_num, by rw [HE2.out, HR2.out], Lib.hid HBW0.out.drew⟩
          case measure => simp only [intOf]; omega
    · have hle : cntE s 1 ≤ 1 * s.length := by have := hcl 10; have := hcl 34; have := hcl 92; simp only [cntE]; omega
      have hE1 : cntE s 2 = cntE s 1 + s.count 34 := by simp only [cntE] <;> omega
      have hq1 := hcl 34
      have hcc := fun W => count_call s 34 W
      have HCC := Lib.hid hcc
      clear hcc
      generalize s.count 34 = q at *
      generalize hn : s.length + cntE s 1 = n
      generalize hm : cntE s 1 = m at *
      have HE := Lib.hid (show s.length + cntE s 2 = n + q by omega)
      have HE2 := Lib.hid (show cntE s 2 = m + q from hE1)
      have hnl : n ≤ 4 * s.length := by omega
      clear hE1 hn hm
      go_wp2_with fail
      refine (HCC.out _).mono ?_
      rintro e w1 ⟨rfl, rfl⟩
      by_cases hq : q = 0
      · have xq : ((q : Int) == 0) = true := by simp; omega
        have HR := Lib.hid (show n + q = n by omega)
        have HR2 := Lib.hid (show m + q = m by omega)
        clear hq
        go_wp2_with fail
        go_roundw
        case rel => exact ⟨2, by omega, by go_num, by rw [HE.out, HR.out], by rw [HE2.out, HR2.out], HBW0⟩
        case measure => simp only [intOf]; omega
      · have xq : ((q : Int) == 0) = false := by simp; omega
        have HR2 := Lib.hid (show decide (0 < m + q) = true by simp; omega)
        clear hq
        have hc34 : ∀ h, (((⟨#[34]⟩ : ByteArray)[0]'h).toNat : Int) = 34 := fun _ => rfl
        obtain ⟨b, cap, c0⟩ : ∃ b cap, w1.cell? ⟨M + 1, 34, none⟩ = some (.slice (some ⟨b, 0, none⟩) 2 cap) := by
          rcases pb_cell HPv.out 34 with ⟨_, b, cap, h, _⟩ | ⟨h, _⟩
          · exact ⟨b, cap, h⟩
          · exact absurd h (by decide)
        have hw1 : IntKind.i64.wrap 1 = 1 := by decide +kernel
        have hwq : IntKind.i64.wrap ((n : Int) + (q : Int)) = (n : Int) + (q : Int) := by rw [IntKind.wrap_i64]; omega
        have hwq2 : IntKind.i64.wrap (q : Int) = (q : Int) := by rw [IntKind.wrap_i64]; omega
        go_upto_region 9 with (fail)
        have HC0 := Lib.hid (show w1.drew.cell? ⟨M + 1, 34, none⟩ = some (.slice (some ⟨b, 0, none⟩) 2 cap) from c0)
        clear c0
        have HJ0 := Lib.hid (show w1.drew = w1.drew from rfl)
        refine' wp_region_fix (by kernel_rfl) 13 [some 41, some 42, some 43, some 44, some 45, some 46, some 47, some 48, some 49, some 50, some 51, some 52, some 53] [_, _, _, _, _, _, _, _, _, _, _, _, _] [] (fun _ W => W = w1.drew) (by kernel_rfl) (by decide) (by kernel_rfl) (by decide) (by rfl) (by decide) (HJ0.out) ?_ ?_
        rotate_left 13
        · refine all_cons 0 ?_ (all_cons 1 ?_ (all_cons 2 ?_ (all_cons 3 ?_ (all_cons 4 ?_ (all_cons 5 ?_ (all_cons 6 ?_ (all_cons 7 ?_ (all_cons 8 ?_ (all_cons 9 ?_ (all_cons 10 ?_ (all_cons 11 ?_ (all_cons 12 ?_ (all_done 13)))))))))))))
          · intro o ho fs W HFi HAf HJ A HA HZ K' HK
            have z5 : A.tmps[5]? = some _ := HZ.out 5 (by decide)
            clear HAf HA HZ
            cases ho
            go_simp
            exact HK.out _ HJ.out
          · intro o ho fs W HFi HAf HJ A HA HZ K' HK
            have z9 : A.tmps[9]? = some _ := HZ.out 9 (by decide)
            clear HAf HA HZ
            cases ho
            go_simp
            exact HK.out _ HJ.out
          · intro o ho fs W HFi HAf HJ A HA HZ K' HK
            have z0 : A.tmps[0]? = some _ := HZ.out 0 (by decide)
            clear HAf HA HZ
            cases ho
            go_simp
            exact HK.out _ HJ.out
          · intro o ho fs W HFi HAf HJ A HA HZ K' HK
            have z8 : A.tmps[8]? = some _ := HZ.out 8 (by decide)
            clear HAf HA HZ
            cases ho
            go_simp
            exact HK.out _ HJ.out
          · intro o ho fs W HFi HAf HJ A HA HZ K' HK
            have f3 : fs 3 = true := by cases ho; exact HAf.out ⟨3, .data⟩ (by simp) rfl
            have s3 := HA.out 3 44 (by decide) f3 rfl
            simp only [List.getD_cons_succ, List.getD_cons_zero] at s3
            clear HAf HA HZ f3
            cases ho
            go_simp
            exact HK.out _ HJ.out
          · intro o ho fs W HFi HAf HJ A HA HZ K' HK
            have f2 : fs 2 = true := by cases ho; exact HAf.out ⟨2, .data⟩ (by simp) rfl
            have s2 := HA.out 2 43 (by decide) f2 rfl
            simp only [List.getD_cons_succ, List.getD_cons_zero] at s2
            clear HAf HA HZ f2
            cases ho
            go_simp
            exact HK.out _ HJ.out
          · intro o ho fs W HFi HAf HJ A HA HZ K' HK
            have f5 : fs 5 = true := by cases ho; exact HAf.out ⟨5, .data⟩ (by simp) rfl
            have s5 := HA.out 5 46 (by decide) f5 rfl
            simp only [List.getD_cons_succ, List.getD_cons_zero] at s5
            clear HAf HA HZ f5
            cases ho
            go_simp
            exact HK.out _ HJ.out
          · intro o ho fs W HFi HAf HJ A HA HZ K' HK
            have f6 : fs 6 = true := by cases ho; exact HAf.out ⟨6, .data⟩ (by simp) rfl
            have s6 := HA.out 6 47 (by decide) f6 rfl
            simp only [List.getD_cons_succ, List.getD_cons_zero] at s6
            have f4 : fs 4 = true := by cases ho; exact HAf.out ⟨4, .data⟩ (by simp) rfl
            have s4 := HA.out 4 45 (by decide) f4 rfl
            simp only [List.getD_cons_succ, List.getD_cons_zero] at s4
            clear HAf HA HZ f6 f4
            cases ho
            go_simp
            exact HK.out _ HJ.out
          · intro o ho fs W HFi HAf HJ A HA HZ K' HK
            have f7 : fs 7 = true := by cases ho; exact HAf.out ⟨7, .data⟩ (by simp) rfl
            have s7 := HA.out 7 48 (by decide) f7 rfl
            simp only [List.getD_cons_succ, List.getD_cons_zero] at s7
            clear HAf HA HZ f7
            have hWW := HJ.out
            have c0 : W.cell? ⟨M + 1, 34, none⟩ = some (.slice (some ⟨b, 0, none⟩) 2 cap) := by rw [hWW]; exact HC0.out
            clear hWW
            cases ho
            go_simp
            exact HK.out _ HJ.out
          · intro o ho fs W HFi HAf HJ A HA HZ K' HK
            have f8 : fs 8 = true := by cases ho; exact HAf.out ⟨8, .data⟩ (by simp) rfl
            have s8 := HA.out 8 49 (by decide) f8 rfl
            simp only [List.getD_cons_succ, List.getD_cons_zero] at s8
            clear HAf HA HZ f8
            cases ho
            go_simp
            exact HK.out _ HJ.out
          · intro o ho fs W HFi HAf HJ A HA HZ K' HK
            have f9 : fs 9 = true := by cases ho; exact HAf.out ⟨9, .data⟩ (by simp) rfl
            have s9 := HA.out 9 50 (by decide) f9 rfl
            simp only [List.getD_cons_succ, List.getD_cons_zero] at s9
            clear HAf HA HZ f9
            cases ho
            go_simp
            exact HK.out _ HJ.out
          · intro o ho fs W HFi HAf HJ A HA HZ K' HK
            have f1 : fs 1 = true := by cases ho; exact HAf.out ⟨1, .data⟩ (by simp) rfl
            have s1 := HA.out 1 42 (by decide) f1 rfl
            simp only [List.getD_cons_succ, List.getD_cons_zero] at s1
            have f10 : fs 10 = true := by cases ho; exact HAf.out ⟨10, .data⟩ (by simp) rfl
            have s10 := HA.out 10 51 (by decide) f10 rfl
            simp only [List.getD_cons_succ, List.getD_cons_zero] at s10
            clear HAf HA HZ f1 f10
            cases ho
            go_simp
            exact HK.out _ HJ.out
          · intro o ho fs W HFi HAf HJ A HA HZ K' HK
            have f0 : fs 0 = true := by cases ho; exact HAf.out ⟨0, .data⟩ (by simp) rfl
            have s0 := HA.out 0 41 (by decide) f0 rfl
            simp only [List.getD_cons_zero] at s0
            have f11 : fs 11 = true := by cases ho; exact HAf.out ⟨11, .data⟩ (by simp) rfl
            have s11 := HA.out 11 52 (by decide) f11 rfl
            simp only [List.getD_cons_succ, List.getD_cons_zero] at s11
            clear HAf HA HZ f0 f11
            cases ho
            go_simp
            exact HK.out _ HJ.out
        · intro W hJ
          simp only [canon, Act.put, List.getD_cons_succ, List.getD_cons_zero, List.drop_succ_cons, List.drop_zero, List.setIfInBounds_toArray, List.set_cons_zero, List.set_cons_succ]
          subst hJ
          go_wp2_with fail
          go_roundw
          case rel => exact ⟨2, by omega, by go_num, by rw [HE.out]; go_num, by rw [HE2.out, HR2.out], Lib.hid HBW0.out.drew⟩
          case measure => simp only [intOf]; omega
    · have hle : cntE s 2 ≤ 2 * s.length := by have := hcl 10; have := hcl 34; have := hcl 92; simp only [cntE]; omega
      have hE1 : cntE s 3 = cntE s 2 + s.count 92 := by simp only [cntE] <;> omega
      have hq1 := hcl 92
      have hcc := fun W => count_call s 92 W
      have HCC := Lib.hid hcc
      clear hcc
      generalize s.count 92 = q at *
      generalize hn : s.length + cntE s 2 = n
      generalize hm : cntE s 2 = m at *
      have HE := Lib.hid (show s.length + cntE s 3 = n + q by omega)
      have HE2 := Lib.hid (show cntE s 3 = m + q from hE1)
      have hnl : n ≤ 4 * s.length := by omega
      clear hE1 hn hm
      go_wp2_with fail
      refine (HCC.out _).mono ?_
      rintro e w1 ⟨rfl, rfl⟩
      by_cases hq : q = 0
      · have xq : ((q : Int) == 0) = true := by simp; omega
        have HR := Lib.hid (show n + q = n by omega)
        have HR2 := Lib.hid (show m + q = m by omega)
        clear hq
        go_wp2_with fail
        go_roundw
        case rel => exact ⟨3, by omega, by go_num, by rw [HE.out, HR.out], by rw [HE2.out, HR2.out], HBW0⟩
        case measure => simp only [intOf]; omega
      · have xq : ((q : Int) == 0) = false := by simp; omega
        have HR2 := Lib.hid (show decide (0 < m + q) = true by simp; omega)
        clear hq
        have hc92 : ∀ h, (((⟨#[92]⟩ : ByteArray)[0]'h).toNat : Int) = 92 := fun _ => rfl
        obtain ⟨b, cap, c0⟩ : ∃ b cap, w1.cell? ⟨M + 1, 92, none⟩ = some (.slice (some ⟨b, 0, none⟩) 2 cap) := by
          rcases pb_cell HPv.out 92 with ⟨_, b, cap, h, _⟩ | ⟨h, _⟩
          · exact ⟨b, cap, h⟩
          · exact absurd h (by decide)
        have hw1 : IntKind.i64.wrap 1 = 1 := by decide +kernel
        have hwq : IntKind.i64.wrap ((n : Int) + (q : Int)) = (n : Int) + (q : Int) := by rw [IntKind.wrap_i64]; omega
        have hwq2 : IntKind.i64.wrap (q : Int) = (q : Int) := by rw [IntKind.wrap_i64]; omega
        go_upto_region 9 with (fail)
        have HC0 := Lib.hid (show w1.drew.cell? ⟨M + 1, 92, none⟩ = some (.slice (some ⟨b, 0, none⟩) 2 cap) from c0)
        clear c0
        have HJ0 := Lib.hid (show w1.drew = w1.drew from rfl)
        refine' wp_region_fix (by kernel_rfl) 13 [some 41, some 42, some 43, some 44, some 45, some 46, some 47, some 48, some 49, some 50, some 51, some 52, some 53] [_, _, _, _, _, _, _, _, _, _, _, _, _] [] (fun _ W => W = w1.drew) (by kernel_rfl) (by decide) (by kernel_rfl) (by decide) (by rfl) (by decide) (HJ0.out) ?_ ?_
        rotate_left 13
        · refine all_cons 0 ?_ (all_cons 1 ?_ (all_cons 2 ?_ (all_cons 3 ?_ (all_cons 4 ?_ (all_cons 5 ?_ (all_cons 6 ?_ (all_cons 7 ?_ (all_cons 8 ?_ (all_cons 9 ?_ (all_cons 10 ?_ (all_cons 11 ?_ (all_cons 12 ?_ (all_done 13)))))))))))))
          · intro o ho fs W HFi HAf HJ A HA HZ K' HK
            have z5 : A.tmps[5]? = some _ := HZ.out 5 (by decide)
            clear HAf HA HZ
            cases ho
            go_simp
            exact HK.out _ HJ.out
          · intro o ho fs W HFi HAf HJ A HA HZ K' HK
            have z9 : A.tmps[9]? = some _ := HZ.out 9 (by decide)
            clear HAf HA HZ
            cases ho
            go_simp
            exact HK.out _ HJ.out
          · intro o ho fs W HFi HAf HJ A HA HZ K' HK
            have z0 : A.tmps[0]? = some _ := HZ.out 0 (by decide)
            clear HAf HA HZ
            cases ho
            go_simp
            exact HK.out _ HJ.out
          · intro o ho fs W HFi HAf HJ A HA HZ K' HK
            have z8 : A.tmps[8]? = some _ := HZ.out 8 (by decide)
            clear HAf HA HZ
            cases ho
            go_simp
            exact HK.out _ HJ.out
          · intro o ho fs W HFi HAf HJ A HA HZ K' HK
            have f3 : fs 3 = true := by cases ho; exact HAf.out ⟨3, .data⟩ (by simp) rfl
            have s3 := HA.out 3 44 (by decide) f3 rfl
            simp only [List.getD_cons_succ, List.getD_cons_zero] at s3
            clear HAf HA HZ f3
            cases ho
            go_simp
            exact HK.out _ HJ.out
          · intro o ho fs W HFi HAf HJ A HA HZ K' HK
            have f2 : fs 2 = true := by cases ho; exact HAf.out ⟨2, .data⟩ (by simp) rfl
            have s2 := HA.out 2 43 (by decide) f2 rfl
            simp only [List.getD_cons_succ, List.getD_cons_zero] at s2
            clear HAf HA HZ f2
            cases ho
            go_simp
            exact HK.out _ HJ.out
          · intro o ho fs W HFi HAf HJ A HA HZ K' HK
            have f5 : fs 5 = true := by cases ho; exact HAf.out ⟨5, .data⟩ (by simp) rfl
            have s5 := HA.out 5 46 (by decide) f5 rfl
            simp only [List.getD_cons_succ, List.getD_cons_zero] at s5
            clear HAf HA HZ f5
            cases ho
            go_simp
            exact HK.out _ HJ.out
          · intro o ho fs W HFi HAf HJ A HA HZ K' HK
            have f6 : fs 6 = true := by cases ho; exact HAf.out ⟨6, .data⟩ (by simp) rfl
            have s6 := HA.out 6 47 (by decide) f6 rfl
            simp only [List.getD_cons_succ, List.getD_cons_zero] at s6
            have f4 : fs 4 = true := by cases ho; exact HAf.out ⟨4, .data⟩ (by simp) rfl
            have s4 := HA.out 4 45 (by decide) f4 rfl
            simp only [List.getD_cons_succ, List.getD_cons_zero] at s4
            clear HAf HA HZ f6 f4
            cases ho
            go_simp
            exact HK.out _ HJ.out
          · intro o ho fs W HFi HAf HJ A HA HZ K' HK
            have f7 : fs 7 = true := by cases ho; exact HAf.out ⟨7, .data⟩ (by simp) rfl
            have s7 := HA.out 7 48 (by decide) f7 rfl
            simp only [List.getD_cons_succ, List.getD_cons_zero] at s7
            clear HAf HA HZ f7
            have hWW := HJ.out
            have c0 : W.cell? ⟨M + 1, 92, none⟩ = some (.slice (some ⟨b, 0, none⟩) 2 cap) := by rw [hWW]; exact HC0.out
            clear hWW
            cases ho
            go_simp
            exact HK.out _ HJ.out
          · intro o ho fs W HFi HAf HJ A HA HZ K' HK
            have f8 : fs 8 = true := by cases ho; exact HAf.out ⟨8, .data⟩ (by simp) rfl
            have s8 := HA.out 8 49 (by decide) f8 rfl
            simp only [List.getD_cons_succ, List.getD_cons_zero] at s8
            clear HAf HA HZ f8
            cases ho
            go_simp
            exact HK.out _ HJ.out
          · intro o ho fs W HFi HAf HJ A HA HZ K' HK
            have f9 : fs 9 = true := by cases ho; exact HAf.out ⟨9, .data⟩ (by simp) rfl
            have s9 := HA.out 9 50 (by decide) f9 rfl
            simp only [List.getD_cons_succ, List.getD_cons_zero] at s9
            clear HAf HA HZ f9
            cases ho
            go_simp
            exact HK.out _ HJ.out
          · intro o ho fs W HFi HAf HJ A HA HZ K' HK
            have f1 : fs 1 = true := by cases ho; exact HAf.out ⟨1, .data⟩ (by simp) rfl
            have s1 := HA.out 1 42 (by decide) f1 rfl
            simp only [List.getD_cons_succ, List.getD_cons_zero] at s1
            have f10 : fs 10 = true := by cases ho; exact HAf.out ⟨10, .data⟩ (by simp) rfl
            have s10 := HA.out 10 51 (by decide) f10 rfl
            simp only [List.getD_cons_succ, List.getD_cons_zero] at s10
            clear HAf HA HZ f1 f10
            cases ho
            go_simp
            exact HK.out _ HJ.out
          · intro o ho fs W HFi HAf HJ A HA HZ K' HK
            have f0 : fs 0 = true := by cases ho; exact HAf.out ⟨0, .data⟩ (by simp) rfl
            have s0 := HA.out 0 41 (by decide) f0 rfl
            simp only [List.getD_cons_zero] at s0
            have f11 : fs 11 = true := by cases ho; exact HAf.out ⟨11, .data⟩ (by simp) rfl
            have s11 := HA.out 11 52 (by decide) f11 rfl
            simp only [List.getD_cons_succ, List.getD_cons_zero] at s11
            clear HAf HA HZ f0 f11
            cases ho
            go_simp
            exact HK.out _ HJ.out
        · intro W hJ
          simp only [canon, Act.put, List.getD_cons_succ, List.getD_cons_zero, List.drop_succ_cons, List.drop_zero, List.setIfInBounds_toArray, List.set_cons_zero, List.set_cons_succ]
          subst hJ
          go_wp2_with fail
          go_roundw
          case rel => exact ⟨3, by omega, by go_num, by rw [HE.out]; go_num, by rw [HE2.out, HR2.out], Lib.hid HBW0.out.drew⟩
          case measure => simp only [intOf]; omega
    · have hcnt : cntE s 3 = escN s := (escN_count s).symm
      rw [hcnt]
      clear hcnt cr q0 q1 q2 hMw
      have hMw := hMv
      have HP := HPv
      have hel := escT_len s
      generalize hN : s.length + escN s = n at hel ⊢
      have hnl : n ≤ 2000000 := by have := List.countP_le_length (p := escB) (l := s); unfold escN at hN; omega
      by_cases h0 : escN s = 0
      · rw [show decide (0 < escN s) = false by simp [h0]]
        have HES := Lib.hid (escT_none s h0)
        clear h0 hN hel
        go_wp2_with fail
        go_ret
        exact ⟨by rw [HES.out]; rfl, HBW0.out⟩
      · rw [show decide (0 < escN s) = true by simp; omega]
        have HEL := Lib.hid hel
        have hmk := HMk.out wv n hnl
        clear h0 hN hel
        have hnn : n < 140737488355328 := by omega
        have HB0 := Lib.hid (show Buf (wv.alloc (.cells (Array.replicate n (u8V 0)) 5 (0, 0))) wv.heap.size (List.replicate n 0) from by unfold Buf; rw [heap_alloc_new, List.map_replicate]; simp)
        have HW0 := Lib.hid (below_alloc wv (.cells (Array.replicate n (u8V 0)) 5 (0, 0)))
        go_upto_region 22 with (fail)
        clear hmk
        generalize wv.alloc (.cells (Array.replicate n (u8V 0)) 5 (0, 0)) = w1 at HB0 HW0 ⊢
        go_wp2_with fail
        go_loopw [13, 14] (fun j i wr => ∃ k : Nat, k ≤ s.length ∧ i = .int .i64 k ∧ j = .int .i64 ((escT (s.take k)).length : Int) ∧ Hid (Buf wr wv.heap.size (escT (s.take k) ++ List.replicate (n - (escT (s.take k)).length) 0)) ∧ Hid (Below wv.heap.size wv wr)) (fun _ i _ => s.length - (intOf i).toNat)
        case atStart => exact ⟨0, Nat.zero_le _, rfl, rfl, HB0, HW0⟩
        case round =>
          obtain ⟨k, hk, rfl, rfl, HB, HW⟩ := hrel
          clear HB0 HW0
          have hzw := HW.out.size
          have hbw := lt_of_block HB.out
          by_cases hlk : k < s.length
          · have x1 : (k : Int) < (s.length : Int) := by omega
            have hks : k < (ba s).size := by rw [ba_size]; exact hlk
            obtain ⟨c, hc⟩ : ∃ c, (ba s)[k]'hks = c := ⟨_, rfl⟩
            have hst := escT_snoc s k hlk
            rw [show s[k]'hlk = c from hc] at hst
            have HC := Lib.hid hc
            clear hc
            have hpre : (escT (s.take (k + 1))).length ≤ n := by
              rw [← HEL.out, escT_len, escT_len, List.length_take]
              have := List.Sublist.countP_le (p := escB) (List.take_sublist (k + 1) s)
              unfold escN; omega
            generalize hd : escT (s.take k) = d at *
            have HD := Lib.hid hd
            clear hd
            go_upto_region 27 with (fail)
            have hcc := HC.out.symm
            generalize (ba s)[k]'hks = c' at hcc ⊢
            subst hcc
            clear hks HC
            have c256 : (c.toNat : Int) < 256 := by have := c.toNat_lt; omega
            rcases pb_cell HP.out c with ⟨he, b, cap, c0w, hMb, hbw1, e0w, e1w⟩ | ⟨he, c0w⟩
            · have c0 := (cellsB HW.out (Nat.le_refl _) (M + 1) c.toNat hMw).trans c0w
              have e0 := (cellsB HW.out (Nat.le_refl _) b 0 hbw1).trans e0w
              have e1 := (cellsB HW.out (Nat.le_refl _) b 1 hbw1).trans e1w
              have hbw2 : b < wr.heap.size := by omega
              clear c0w e0w e1w
              have hwE : escW c = [92, if c.toNat = 10 then 110 else c] := by unfold escW; rw [he]; rfl
              rw [hwE] at hst
              generalize hx : (if c.toNat = 10 then 110 else c) = x at *
              clear hx hwE he
              rw [hst, List.length_append] at hpre
              have hpre2 : d.length + 2 ≤ n := hpre
              have HST := Lib.hid hst
              clear hst hpre
              have hj0 : (d.length : Int) ≤ (n : Int) := by omega
              have hj1 : (0 : Int) ≤ (d.length : Int) := by omega
              go_upto_region 28 with (fail)
              have HE0 := Lib.hid e0
              have HE1 := Lib.hid e1
              clear e0 e1
              have hnd : ¬ n = d.length := by omega
              have HB1 := Lib.hid HB.out
              have hMN : ¬ M + 1 = wv.heap.size := by omega
              have HL1 := Lib.hid (fill_two d 92 x n hpre2)
              have HJ0 := Lib.hid (show Hid (Ch (fun b => b = wv.heap.size) wr wr.drew) ∧ Hid (Buf wr.drew wv.heap.size (if [false] = [true] then (d ++ [92, x]) ++ List.replicate (n - (d ++ [92, x]).length) 0 else d ++ List.replicate (n - d.length) 0)) from ⟨Lib.hid ⟨rfl, rfl, rfl, Nat.le_refl _, fun _ _ _ => rfl⟩, Lib.hid (by rw [if_neg (by decide)]; exact HB1.out)⟩)
              refine' wp_region_fix (by kernel_rfl) 12 [some 102, some 103, some 104, some 105, some 106, some 107, some 108, some 109, some 110, some 111, some 112, some 113] [_, _, _, _, _, _, _, _, _, _, _, _] [10] (fun (fs : List Bool) (W : World) => Hid (Ch (fun b => b = wv.heap.size) wr W) ∧ Hid (Buf W wv.heap.size (if fs = [true] then (d ++ [92, x]) ++ List.replicate (n - (d ++ [92, x]).length) 0 else d ++ List.replicate (n - d.length) 0))) (by kernel_rfl) (by decide) (by kernel_rfl) (by decide) (by rfl) (by decide) (HJ0.out) ?_ ?_
              rotate_left 12
              · refine all_cons 0 ?_ (all_cons 1 ?_ (all_cons 2 ?_ (all_cons 3 ?_ (all_cons 4 ?_ (all_cons 5 ?_ (all_cons 6 ?_ (all_cons 7 ?_ (all_cons 8 ?_ (all_cons 9 ?_ (all_cons 10 ?_ (all_cons 11 ?_ (all_done 12))))))))))))
                · intro o ho fs W HFi HAf HJ A HA HZ K' HK
                  have z13 : A.tmps[13]? = some _ := HZ.out 13 (by decide)
                  clear HAf HA HZ
                  cases ho
                  go_simp
                  exact HK.out _ (by rw [upd_map fs (by decide)]; exact HJ.out)
                · intro o ho fs W HFi HAf HJ A HA HZ K' HK
                  have z12 : A.tmps[12]? = some _ := HZ.out 12 (by decide)
                  clear HAf HA HZ
                  cases ho
                  go_simp
                  exact HK.out _ (by rw [upd_map fs (by decide)]; exact HJ.out)
                · intro o ho fs W HFi HAf HJ A HA HZ K' HK
                  have z13 : A.tmps[13]? = some _ := HZ.out 13 (by decide)
                  clear HAf HA HZ
                  cases ho
                  go_simp
                  exact HK.out _ (by rw [upd_map fs (by decide)]; exact HJ.out)
                · intro o ho fs W HFi HAf HJ A HA HZ K' HK
                  have f1 : fs 1 = true := by cases ho; exact HAf.out ⟨1, .data⟩ (by simp) rfl
                  have s1 := HA.out 1 103 (by decide) f1 rfl
                  simp only [List.getD_cons_succ, List.getD_cons_zero] at s1
                  have f2 : fs 2 = true := by cases ho; exact HAf.out ⟨2, .data⟩ (by simp) rfl
                  have s2 := HA.out 2 104 (by decide) f2 rfl
                  simp only [List.getD_cons_succ, List.getD_cons_zero] at s2
                  clear HAf HA HZ f1 f2
                  cases ho
                  go_simp
                  exact HK.out _ (by rw [upd_map fs (by decide)]; exact HJ.out)
                · intro o ho fs W HFi HAf HJ A HA HZ K' HK
                  have z0 : A.tmps[0]? = some _ := HZ.out 0 (by decide)
                  clear HAf HA HZ
                  cases ho
                  go_simp
                  exact HK.out _ (by rw [upd_map fs (by decide)]; exact HJ.out)
                · intro o ho fs W HFi HAf HJ A HA HZ K' HK
                  have z15 : A.tmps[15]? = some _ := HZ.out 15 (by decide)
                  clear HAf HA HZ
                  cases ho
                  go_simp
                  exact HK.out _ (by rw [upd_map fs (by decide)]; exact HJ.out)
                · intro o ho fs W HFi HAf HJ A HA HZ K' HK
                  have f4 : fs 4 = true := by cases ho; exact HAf.out ⟨4, .data⟩ (by simp) rfl
                  have s4 := HA.out 4 106 (by decide) f4 rfl
                  simp only [List.getD_cons_succ, List.getD_cons_zero] at s4
                  clear HAf HA HZ f4
                  cases ho
                  go_simp
                  exact HK.out _ (by rw [upd_map fs (by decide)]; exact HJ.out)
                · intro o ho fs W HFi HAf HJ A HA HZ K' HK
                  have f6 : fs 6 = true := by cases ho; exact HAf.out ⟨6, .data⟩ (by simp) rfl
                  have s6 := HA.out 6 108 (by decide) f6 rfl
                  simp only [List.getD_cons_succ, List.getD_cons_zero] at s6
                  clear HAf HA HZ f6
                  cases ho
                  go_simp
                  exact HK.out _ (by rw [upd_map fs (by decide)]; exact HJ.out)
                · intro o ho fs W HFi HAf HJ A HA HZ K' HK
                  have f7 : fs 7 = true := by cases ho; exact HAf.out ⟨7, .data⟩ (by simp) rfl
                  have s7 := HA.out 7 109 (by decide) f7 rfl
                  simp only [List.getD_cons_succ, List.getD_cons_zero] at s7
                  have f5 : fs 5 = true := by cases ho; exact HAf.out ⟨5, .data⟩ (by simp) rfl
                  have s5 := HA.out 5 107 (by decide) f5 rfl
                  simp only [List.getD_cons_succ, List.getD_cons_zero] at s5
                  clear HAf HA HZ f7 f5
                  cases ho
                  go_simp
                  exact HK.out _ (by rw [upd_map fs (by decide)]; exact HJ.out)
                · intro o ho fs W HFi HAf HJ A HA HZ K' HK
                  have f8 : fs 8 = true := by cases ho; exact HAf.out ⟨8, .data⟩ (by simp) rfl
                  have s8 := HA.out 8 110 (by decide) f8 rfl
                  simp only [List.getD_cons_succ, List.getD_cons_zero] at s8
                  clear HAf HA HZ f8
                  have hcW := (cell_eq (HJ.out.1.out.block (M + 1) (by omega) hMN) c.toNat).trans c0
                  cases ho
                  go_simp
                  exact HK.out _ (by rw [upd_map fs (by decide)]; exact HJ.out)
                · intro o ho fs W HFi HAf HJ A HA HZ K' HK
                  have f3 : fs 3 = true := by cases ho; exact HAf.out ⟨3, .data⟩ (by simp) rfl
                  have s3 := HA.out 3 105 (by decide) f3 rfl
                  simp only [List.getD_cons_succ, List.getD_cons_zero] at s3
                  have f9 : fs 9 = true := by cases ho; exact HAf.out ⟨9, .data⟩ (by simp) rfl
                  have s9 := HA.out 9 111 (by decide) f9 rfl
                  simp only [List.getD_cons_succ, List.getD_cons_zero] at s9
                  clear HAf HA HZ f3 f9
                  cases ho
                  have hfi := HFi.out
                  have hBW : Buf W wv.heap.size (d ++ List.replicate (n - d.length) 0) := by have h := HJ.out.2.out; rw [List.map_singleton, hfi, if_neg (by decide)] at h; exact h
                  have hbe := HJ.out.1.out.block b hbw2 (by omega)
                  have hcp := run_copy_cells (P := Tryz.prog) W 50 50 3 5 wv.heap.size d.length (n - d.length) (n - d.length) ⟨b, 0, none⟩ 2 cap [u8V 92, u8V x] Tryz.underlying50 (by kernel_rfl) (by show 2 = min 2 (n - d.length); omega) (by intro j v hj; rw [Lib.add_plain, Nat.zero_add]; exact copy_src (cell_eq hbe 0) (cell_eq hbe 1) HE0.out HE1.out hj) (by intro j hj; rw [cells_of hBW]; simp at hj ⊢; omega) (fun j _ => frees_of hBW _) (by intro v hv; simp only [List.mem_cons, List.not_mem_nil, or_false] at hv; rcases hv with rfl | rfl <;> rfl)
                  have hBN := (hBW.set d.length 92).set (d.length + 1) x
                  rw [HL1.out] at hBN
                  have hCN : Ch (fun b => b = wv.heap.size) wr (W.setCells wv.heap.size d.length [u8V 92, u8V x]) := Ch.trans (E := fun b => b = wv.heap.size) HJ.out.1.out (Ch.trans (E := fun b => b = wv.heap.size) (Ch.of_set W wv.heap.size d.length (u8V 92)) (Ch.of_set _ wv.heap.size (d.length + 1) (u8V x)) (fun i _ h => ⟨h, h⟩)) (fun i _ h => ⟨h, h⟩)
                  have HBN := Lib.hid hBN
                  have HCN := Lib.hid hCN
                  clear hBW hbe hfi hBN hCN
                  go_simp
                  exact HK.out _ ⟨Lib.hid HCN.out, Lib.hid (by rw [List.map_singleton, upd_at, if_pos rfl]; exact HBN.out)⟩
                · intro o ho fs W HFi HAf HJ A HA HZ K' HK
                  have f0 : fs 0 = true := by cases ho; exact HAf.out ⟨0, .data⟩ (by simp) rfl
                  have s0 := HA.out 0 102 (by decide) f0 rfl
                  simp only [List.getD_cons_zero] at s0
                  have f10 : fs 10 = true := by cases ho; exact HAf.out ⟨10, .data⟩ (by simp) rfl
                  have s10 := HA.out 10 112 (by decide) f10 rfl
                  simp only [List.getD_cons_succ, List.getD_cons_zero] at s10
                  clear HAf HA HZ f0 f10
                  cases ho
                  go_simp
                  exact HK.out _ (by rw [upd_map fs (by decide)]; exact HJ.out)
              · intro W hJ
                simp only [canon, Act.put, List.getD_cons_succ, List.getD_cons_zero, List.drop_succ_cons, List.drop_zero, List.setIfInBounds_toArray, List.set_cons_zero, List.set_cons_succ]
                have hwr : IntKind.i64.wrap ((d.length : Int) + 2) = (d.length : Int) + 2 := by rw [IntKind.wrap_i64]; omega
                have HCW := Lib.hid hJ.1.out
                have HBW := Lib.hid (show Buf W wv.heap.size ((d ++ [92, x]) ++ List.replicate (n - (d ++ [92, x]).length) 0) from by have h := hJ.2.out; rw [List.map_singleton, if_pos rfl] at h; exact h)
                clear hJ
                go_wp2_with fail
                go_roundw
                case rel => exact ⟨k + 1, by omega, by go_num, by rw [HST.out, List.length_append, show ([92, x] : List UInt8).length = 2 from rfl]; go_num, by rw [HST.out]; exact HBW, Lib.hid (HW.out.trans (HCW.out.below hzw (fun j h1 h2 => by omega)))⟩
                case measure => simp only [intOf]; omega
            · have c0 := (cellsB HW.out (Nat.le_refl _) (M + 1) c.toNat hMw).trans c0w
              clear c0w
              have hwE : escW c = [c] := by unfold escW; rw [he]; rfl
              rw [hwE] at hst
              clear hwE he
              rw [hst, List.length_append, List.length_singleton] at hpre
              have HST := Lib.hid hst
              clear hst
              have hj0 : (d.length : Int) < (n : Int) := by omega
              have hj1 : d.length < n := by omega
              have cN : wr.cell? ⟨wv.heap.size, d.length, none⟩ = some (u8V 0) := by
                rw [cells_of HB.out, List.getElem?_toArray, List.getElem?_map, List.getElem?_append_right (Nat.le_refl _), Nat.sub_self, List.getElem?_replicate, if_pos (by omega)]
                rfl
              have fN := frees_of HB.out
              have HBN := Lib.hid (HB.out.set d.length c)
              rw [fill_one d c n hj1] at HBN
              have HWN := Lib.hid (HW.out.setCell (p := ⟨wv.heap.size, d.length, none⟩) (Nat.le_refl _) (u8V c))
              go_wp2_with fail
              go_roundw
              case rel => exact ⟨k + 1, by omega, by go_num, by rw [HST.out, List.length_append, List.length_singleton]; go_num, by rw [HST.out]; exact HBN, HWN⟩
              case measure => simp only [intOf]; omega
          · have x1 : ¬ (k : Int) < (s.length : Int) := by omega
            obtain rfl : k = s.length := by omega
            have hB2 := HB.out
            rw [List.take_length, HEL.out, Nat.sub_self, List.replicate_zero, List.append_nil] at hB2
            have hcv : (convert 50 9 (.slice (some ⟨wv.heap.size, 0, none⟩) n n)).run Tryz.prog wr = .ok (.string (ba (escT s))) wr := by
              have h := run_convert_bytes_back (P := Tryz.prog) wr 50 9 5 ⟨wv.heap.size, 0, none⟩ n (escT s) Tryz.underlying50 Tryz.underlying5 Tryz.underlying9 (fun j hj => by
                rw [Lib.add_plain, Nat.zero_add, cells_of hB2, List.getElem?_toArray, List.getElem?_map, List.getElem?_eq_getElem hj]
                rfl)
              rw [HEL.out] at h
              exact h
            clear hB2
            go_wp2_with fail
            go_ret
            exact ⟨rfl, bstep HBW0.out HW.out⟩
end Go.Proofs.YtmcnhggpmlhgeaaGreatDoor
