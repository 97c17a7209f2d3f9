/-
  The law BitsKnown: the walk, call by call.
-/
import Derived.Test.YtdgjbejbbmnhbaaBitsLawInts
import Derived.Test.YtdgjbejbbmnhbaaBitsLawParts
import Derived.Test.YtdgjbejbbmnhbaaBitsLawCmp
import Derived.Test.YtdgjbejbbmnhbaaBitsPartsMain
namespace Go.Proofs.Ytdgjbejbbmnhbaa
open Go.RowKit Go.Proofs.BitsM
theorem kn_of1 (W : World) : Calls Try.prog 20 #[.string ⟨#[165, 240]⟩] W fun e w' => e = .returned (.agg #[.string ⟨#[165, 240]⟩, .int .i64 16]) ∧ Below W.heap.size W w' := by
  exact Of_any ⟨#[165, 240]⟩ (by decide) W
theorem kn_cut1 (W : World) : Calls Try.prog 21 #[.agg #[.string ⟨#[165, 240]⟩, .int .i64 16], .int .i64 4, .int .i64 8] W fun e w' => e = .returned (.tuple #[.agg #[.string ⟨#[95]⟩, .int .i64 8], .int .i64 0]) ∧ Below W.heap.size W w' := by
  have h := Cut_any ⟨#[165, 240]⟩ 16 4 8 (by decide) ⟨by decide, by decide⟩ ⟨by decide, by decide⟩ ⟨by decide, by decide⟩ W
  rw [show cutR ⟨#[165, 240]⟩ 16 4 8 = (⟨#[95]⟩, 8, 0) by decide +kernel] at h
  exact h
theorem kn_cut2 (W : World) : Calls Try.prog 21 #[.agg #[.string ⟨#[165, 240]⟩, .int .i64 16], .int .i64 9, .int .i64 8] W fun e w' => e = .returned (.tuple #[.agg #[.string ⟨#[]⟩, .int .i64 0], .int .i64 2]) ∧ Below W.heap.size W w' := by
  have h := Cut_any ⟨#[165, 240]⟩ 16 9 8 (by decide) ⟨by decide, by decide⟩ ⟨by decide, by decide⟩ ⟨by decide, by decide⟩ W
  rw [show cutR ⟨#[165, 240]⟩ 16 9 8 = (⟨#[]⟩, 0, 2) by decide +kernel] at h
  exact h
theorem kn_cut3 (W : World) : Calls Try.prog 21 #[.agg #[.string ⟨#[165, 240]⟩, .int .i64 16], .int .i64 16, .int .i64 0] W fun e w' => e = .returned (.tuple #[.agg #[.string ⟨#[]⟩, .int .i64 0], .int .i64 0]) ∧ Below W.heap.size W w' := by
  have h := Cut_any ⟨#[165, 240]⟩ 16 16 0 (by decide) ⟨by decide, by decide⟩ ⟨by decide, by decide⟩ ⟨by decide, by decide⟩ W
  rw [show cutR ⟨#[165, 240]⟩ 16 16 0 = (⟨#[]⟩, 0, 0) by decide +kernel] at h
  exact h
theorem kn_of2 (W : World) : Calls Try.prog 20 #[.string ⟨#[95]⟩] W fun e w' => e = .returned (.agg #[.string ⟨#[95]⟩, .int .i64 8]) ∧ Below W.heap.size W w' := by
  exact Of_any ⟨#[95]⟩ (by decide) W
theorem kn_of3 (W : World) : Calls Try.prog 20 #[.string ⟨#[191]⟩] W fun e w' => e = .returned (.agg #[.string ⟨#[191]⟩, .int .i64 8]) ∧ Below W.heap.size W w' := by
  exact Of_any ⟨#[191]⟩ (by decide) W
theorem kn_cmp1 (W : World) : Calls Try.prog 32 #[.agg #[.string ⟨#[160]⟩, .int .i64 3], .agg #[.string ⟨#[160]⟩, .int .i64 4]] W fun e w' => e = .returned (.int .i64 (-1)) ∧ Below W.heap.size W w' := by
  have h := Cmp_any ⟨#[160]⟩ 3 ⟨#[160]⟩ 4 (by decide) (by decide) ⟨by decide, by decide⟩ ⟨by decide, by decide⟩ W
  rw [show cmpR ⟨#[160]⟩ 3 ⟨#[160]⟩ 4 = -1 by decide +kernel] at h
  exact h
theorem kn_of4 (W : World) : Calls Try.prog 20 #[.string ⟨#[128]⟩] W fun e w' => e = .returned (.agg #[.string ⟨#[128]⟩, .int .i64 8]) ∧ Below W.heap.size W w' := by
  exact Of_any ⟨#[128]⟩ (by decide) W
theorem kn_of5 (W : World) : Calls Try.prog 20 #[.string ⟨#[127]⟩] W fun e w' => e = .returned (.agg #[.string ⟨#[127]⟩, .int .i64 8]) ∧ Below W.heap.size W w' := by
  exact Of_any ⟨#[127]⟩ (by decide) W
theorem kn_cmp2 (W : World) : Calls Try.prog 32 #[.agg #[.string ⟨#[128]⟩, .int .i64 8], .agg #[.string ⟨#[127]⟩, .int .i64 8]] W fun e w' => e = .returned (.int .i64 (1)) ∧ Below W.heap.size W w' := by
  have h := Cmp_any ⟨#[128]⟩ 8 ⟨#[127]⟩ 8 (by decide) (by decide) ⟨by decide, by decide⟩ ⟨by decide, by decide⟩ W
  rw [show cmpR ⟨#[128]⟩ 8 ⟨#[127]⟩ 8 = 1 by decide +kernel] at h
  exact h
theorem kn_cmp3 (W : World) : Calls Try.prog 32 #[.agg #[.string ⟨#[]⟩, .int .i64 0], .agg #[.string ⟨#[0]⟩, .int .i64 1]] W fun e w' => e = .returned (.int .i64 (-1)) ∧ Below W.heap.size W w' := by
  have h := Cmp_any ⟨#[]⟩ 0 ⟨#[0]⟩ 1 (by decide) (by decide) ⟨by decide, by decide⟩ ⟨by decide, by decide⟩ W
  rw [show cmpR ⟨#[]⟩ 0 ⟨#[0]⟩ 1 = -1 by decide +kernel] at h
  exact h
theorem kn_put1 (W : World) : Calls Try.prog 28 #[.int .i64 5, .int .i64 12, .bool true] W fun e w' => e = .returned (.tuple #[.agg #[.string ⟨#[]⟩, .int .i64 0], .int .i64 2]) ∧ Below W.heap.size W w' := by
  have h := Put_any 5 12 true ⟨by decide, by decide⟩ ⟨by decide, by decide⟩ W
  rw [show putR 5 12 true = (⟨#[]⟩, 0, 2) by decide +kernel] at h
  exact h
theorem kn_put2 (W : World) : Calls Try.prog 28 #[.int .i64 0, .int .i64 0, .bool true] W fun e w' => e = .returned (.tuple #[.agg #[.string ⟨#[]⟩, .int .i64 0], .int .i64 0]) ∧ Below W.heap.size W w' := by
  have h := Put_any 0 0 true ⟨by decide, by decide⟩ ⟨by decide, by decide⟩ W
  rw [show putR 0 0 true = (⟨#[]⟩, 0, 0) by decide +kernel] at h
  exact h
theorem kn_put3 (W : World) : Calls Try.prog 28 #[.int .i64 1, .int .i64 65, .bool false] W fun e w' => e = .returned (.tuple #[.agg #[.string ⟨#[]⟩, .int .i64 0], .int .i64 2]) ∧ Below W.heap.size W w' := by
  have h := Put_any 1 65 false ⟨by decide, by decide⟩ ⟨by decide, by decide⟩ W
  rw [show putR 1 65 false = (⟨#[]⟩, 0, 2) by decide +kernel] at h
  exact h
theorem kn_put4 (W : World) : Calls Try.prog 28 #[.int .i64 258, .int .i64 16, .bool true] W fun e w' => e = .returned (.tuple #[.agg #[.string ⟨#[2, 1]⟩, .int .i64 16], .int .i64 0]) ∧ Below W.heap.size W w' := by
  have h := Put_any 258 16 true ⟨by decide, by decide⟩ ⟨by decide, by decide⟩ W
  rw [show putR 258 16 true = (⟨#[2, 1]⟩, 16, 0) by decide +kernel] at h
  exact h
theorem kn_get1 (W : World) : Calls Try.prog 30 #[.agg #[.string ⟨#[160]⟩, .int .i64 3], .bool true, .bool false] W fun e w' => e = .returned (.tuple #[.int .i64 (-3), .int .i64 0]) ∧ Below W.heap.size W w' := by
  have h := Get_any ⟨#[160]⟩ 3 true false (by decide) ⟨by decide, by decide⟩ W
  rw [show getR ⟨#[160]⟩ 3 true false = (-3, 0) by decide +kernel] at h
  exact h
theorem kn_get2 (W : World) : Calls Try.prog 30 #[.agg #[.string ⟨#[160]⟩, .int .i64 3], .bool false, .bool false] W fun e w' => e = .returned (.tuple #[.int .i64 (5), .int .i64 0]) ∧ Below W.heap.size W w' := by
  have h := Get_any ⟨#[160]⟩ 3 false false (by decide) ⟨by decide, by decide⟩ W
  rw [show getR ⟨#[160]⟩ 3 false false = (5, 0) by decide +kernel] at h
  exact h
theorem kn_get3 (W : World) : Calls Try.prog 30 #[.agg #[.string ⟨#[2, 1]⟩, .int .i64 16], .bool false, .bool true] W fun e w' => e = .returned (.tuple #[.int .i64 (258), .int .i64 0]) ∧ Below W.heap.size W w' := by
  have h := Get_any ⟨#[2, 1]⟩ 16 false true (by decide) ⟨by decide, by decide⟩ W
  rw [show getR ⟨#[2, 1]⟩ 16 false true = (258, 0) by decide +kernel] at h
  exact h
theorem kn_of6 (W : World) : Calls Try.prog 20 #[.string ⟨#[255, 255, 255, 255, 255, 255, 255, 255]⟩] W fun e w' => e = .returned (.agg #[.string ⟨#[255, 255, 255, 255, 255, 255, 255, 255]⟩, .int .i64 64]) ∧ Below W.heap.size W w' := by
  exact Of_any ⟨#[255, 255, 255, 255, 255, 255, 255, 255]⟩ (by decide) W
theorem kn_get4 (W : World) : Calls Try.prog 30 #[.agg #[.string ⟨#[255, 255, 255, 255, 255, 255, 255, 255]⟩, .int .i64 64], .bool true, .bool false] W fun e w' => e = .returned (.tuple #[.int .i64 (-1), .int .i64 0]) ∧ Below W.heap.size W w' := by
  have h := Get_any ⟨#[255, 255, 255, 255, 255, 255, 255, 255]⟩ 64 true false (by decide) ⟨by decide, by decide⟩ W
  rw [show getR ⟨#[255, 255, 255, 255, 255, 255, 255, 255]⟩ 64 true false = (-1, 0) by decide +kernel] at h
  exact h
theorem kn_get5 (W : World) : Calls Try.prog 30 #[.agg #[.string ⟨#[255, 255, 255, 255, 255, 255, 255, 255]⟩, .int .i64 64], .bool false, .bool false] W fun e w' => e = .returned (.tuple #[.int .i64 (0), .int .i64 7]) ∧ Below W.heap.size W w' := by
  have h := Get_any ⟨#[255, 255, 255, 255, 255, 255, 255, 255]⟩ 64 false false (by decide) ⟨by decide, by decide⟩ W
  rw [show getR ⟨#[255, 255, 255, 255, 255, 255, 255, 255]⟩ 64 false false = (0, 7) by decide +kernel] at h
  exact h
theorem kn_of7 (W : World) : Calls Try.prog 20 #[.string ⟨#[2, 1]⟩] W fun e w' => e = .returned (.agg #[.string ⟨#[2, 1]⟩, .int .i64 16]) ∧ Below W.heap.size W w' := by
  exact Of_any ⟨#[2, 1]⟩ (by decide) W
theorem kn_join1 (W : World) (v : Value) (hv : SlB W v [(⟨#[160]⟩, 3), (⟨#[248]⟩, 5)]) : Calls Try.prog 14 #[v] W fun e w' => e = .returned (.tuple #[.agg #[.string ⟨#[191]⟩, .int .i64 8], .int .i64 0]) ∧ Below W.heap.size W w' := by
  have h := Join_any v [(⟨#[160]⟩, 3), (⟨#[248]⟩, 5)] (by intro x hx; simp at hx; rcases hx with rfl | rfl <;> exact ⟨by decide, by constructor <;> decide⟩) (by decide) W hv
  rw [show joinR [(⟨#[160]⟩, 3), (⟨#[248]⟩, 5)] = (⟨#[191]⟩, 8, 0) by decide +kernel] at h
  exact h
theorem kn_join2 (W : World) : Calls Try.prog 14 #[.slice none 0 0] W fun e w' => e = .returned (.tuple #[.agg #[.string ⟨#[]⟩, .int .i64 0], .int .i64 0]) ∧ Below W.heap.size W w' := by
  have h := Join_any (.slice none 0 0) [] (by intro x hx; cases hx) (by decide) W ⟨none, 0, rfl, fun h => absurd rfl h⟩
  rw [show joinR [] = (⟨#[]⟩, 0, 0) by decide +kernel] at h
  exact h
set_option maxRecDepth 100000 in
set_option maxHeartbeats 16000000 in
theorem known_any (w : World) : Calls Try.prog 12 #[] w (Yes w) := by
  go_enter Try.func12, Try.ntmps12
  go_wp2_with fail
  refine (kn_of1 _).mono ?_
  rintro e w1 ⟨rfl, hb1⟩
  have HB1 := Lib.hid (bstep (Below.refl w.heap.size w) hb1)
  clear hb1
  go_wp2_with fail
  refine (kn_cut1 _).mono ?_
  rintro e w2 ⟨rfl, hb2⟩
  have KA_2 := Lib.hid (keepB hb2 (new1_0 _ _))
  have HB2 := Lib.hid (bstep (balloc HB1.out _) hb2)
  clear hb2
  have cA_0 := cells_of KA_2.out 0
  have cA_1 := cells_of KA_2.out 1
  simp only [List.getElem?_toArray, List.getElem?_cons_succ, List.getElem?_cons_zero] at cA_0 cA_1
  have zA := lt_of_block KA_2.out
  go_wp2_with fail
  refine (kn_cut2 _).mono ?_
  rintro e w3 ⟨rfl, hb3⟩
  have KA_3 := Lib.hid (keepB hb3 (heap_after KA_2.out (.cells #[.string ⟨#[95]⟩, .int .i64 8] 25)))
  have KB_3 := Lib.hid (keepB hb3 (new1_0 _ _))
  have HB3 := Lib.hid (bstep (balloc HB2.out _) hb3)
  clear hb3
  clear cA_0 cA_1 zA
  have cA_0 := cells_of KA_3.out 0
  have cA_1 := cells_of KA_3.out 1
  simp only [List.getElem?_toArray, List.getElem?_cons_succ, List.getElem?_cons_zero] at cA_0 cA_1
  have zA := lt_of_block KA_3.out
  go_wp2_with fail
  refine (kn_cut3 _).mono ?_
  rintro e w4 ⟨rfl, hb4⟩
  have KA_4 := Lib.hid (keepB hb4 (heap_after KA_3.out (.cells #[.string ⟨#[]⟩, .int .i64 0] 25)))
  have KB_4 := Lib.hid (keepB hb4 (heap_after KB_3.out (.cells #[.string ⟨#[]⟩, .int .i64 0] 25)))
  have KC_4 := Lib.hid (keepB hb4 (new1_0 _ _))
  have HB4 := Lib.hid (bstep (balloc HB3.out _) hb4)
  clear hb4
  clear cA_0 cA_1 zA
  have s0 : ((w4).alloc (.cells #[.string ⟨#[]⟩, .int .i64 0] 25)).cell? ⟨w2.heap.size, 0, none⟩ = some (.string ⟨#[95]⟩) := cells_of (heap_after KB_4.out (.cells #[.string ⟨#[]⟩, .int .i64 0] 25)) 0
  have s1 : ((w4).alloc (.cells #[.string ⟨#[]⟩, .int .i64 0] 25)).cell? ⟨w2.heap.size, 1, none⟩ = some (.int .i64 8) := cells_of (heap_after KB_4.out (.cells #[.string ⟨#[]⟩, .int .i64 0] 25)) 1
  have s2 : ((w4).alloc (.cells #[.string ⟨#[]⟩, .int .i64 0] 25)).cell? ⟨w4.heap.size, 0, none⟩ = some (.string ⟨#[]⟩) := cells_of (new1_0 _ _) 0
  have s3 : ((w4).alloc (.cells #[.string ⟨#[]⟩, .int .i64 0] 25)).cell? ⟨w4.heap.size, 1, none⟩ = some (.int .i64 0) := cells_of (new1_0 _ _) 1
  go_wp2_with fail
  go_region_held3 (fun w' => w'.cell? ⟨w2.heap.size, 0, none⟩ = some (.string ⟨#[95]⟩) ∧ w'.cell? ⟨w2.heap.size, 1, none⟩ = some (.int .i64 8) ∧ w'.cell? ⟨w4.heap.size, 0, none⟩ = some (.string ⟨#[]⟩) ∧ w'.cell? ⟨w4.heap.size, 1, none⟩ = some (.int .i64 0))
    (first
      | (exact ⟨s0, s1, s2, s3⟩)
      | (go_split_ands; refine ⟨?_, ?_, ?_, ?_⟩ <;> exact below_keep hb5 (by assumption))
    )
    (first
      | (go_at_call 20; refine (kn_of2 _).mono ?_; rintro e w5 ⟨rfl, hb5⟩))
  have hb5' : Below ((w4).alloc (.cells #[.string ⟨#[]⟩, .int .i64 0] 25)).heap.size ((w4).alloc (.cells #[.string ⟨#[]⟩, .int .i64 0] 25)) w5 := ⟨hb5.os, hb5.tape, hb5.output, hb5.size, hb5.block⟩
  clear hb5 s0 s1 s2 s3
  have KB_5 := Lib.hid (keepB hb5' (heap_after KB_4.out (.cells #[.string ⟨#[]⟩, .int .i64 0] 25)))
  have KD_5 := Lib.hid (keepB hb5' (new1_0 _ _))
  have HB5 := Lib.hid (bstep (balloc HB4.out _) hb5')
  clear hb5'
  go_wp2_with fail
  refine (kn_join1 _ _ (SlB_two (T := 25) (new2_1 _ _ _) 2)).mono ?_
  rintro e w6 ⟨rfl, hb6⟩
  have KT_6 := Lib.hid (keepB hb6 (new2_0 _ _ _))
  have HB6 := Lib.hid (bstep (balloc (balloc HB5.out _) _) hb6)
  clear hb6
  go_wp2_with fail
  refine (kn_join2 _).mono ?_
  rintro e w7 ⟨rfl, hb7⟩
  have KT_7 := Lib.hid (keepB hb7 (heap_after KT_6.out (.cells #[.string ⟨#[191]⟩, .int .i64 8] 25)))
  have KU_7 := Lib.hid (keepB hb7 (new1_0 _ _))
  have HB7 := Lib.hid (bstep (balloc HB6.out _) hb7)
  clear hb7
  have s0 : ((w7).alloc (.cells #[.string ⟨#[]⟩, .int .i64 0] 25)).cell? ⟨w6.heap.size, 0, none⟩ = some (.string ⟨#[191]⟩) := cells_of (heap_after KU_7.out (.cells #[.string ⟨#[]⟩, .int .i64 0] 25)) 0
  have s1 : ((w7).alloc (.cells #[.string ⟨#[]⟩, .int .i64 0] 25)).cell? ⟨w6.heap.size, 1, none⟩ = some (.int .i64 8) := cells_of (heap_after KU_7.out (.cells #[.string ⟨#[]⟩, .int .i64 0] 25)) 1
  have s2 : ((w7).alloc (.cells #[.string ⟨#[]⟩, .int .i64 0] 25)).cell? ⟨w7.heap.size, 0, none⟩ = some (.string ⟨#[]⟩) := cells_of (new1_0 _ _) 0
  have s3 : ((w7).alloc (.cells #[.string ⟨#[]⟩, .int .i64 0] 25)).cell? ⟨w7.heap.size, 1, none⟩ = some (.int .i64 0) := cells_of (new1_0 _ _) 1
  go_wp2_with fail
  go_region_held3 (fun w' => w'.cell? ⟨w6.heap.size, 0, none⟩ = some (.string ⟨#[191]⟩) ∧ w'.cell? ⟨w6.heap.size, 1, none⟩ = some (.int .i64 8) ∧ w'.cell? ⟨w7.heap.size, 0, none⟩ = some (.string ⟨#[]⟩) ∧ w'.cell? ⟨w7.heap.size, 1, none⟩ = some (.int .i64 0))
    (first
      | (exact ⟨s0, s1, s2, s3⟩)
      | (go_split_ands; refine ⟨?_, ?_, ?_, ?_⟩ <;> exact below_keep hb8 (by assumption))
    )
    (first
      | (go_at_call 20; refine (kn_of3 _).mono ?_; rintro e w8 ⟨rfl, hb8⟩))
  have hb8' : Below ((w7).alloc (.cells #[.string ⟨#[]⟩, .int .i64 0] 25)).heap.size ((w7).alloc (.cells #[.string ⟨#[]⟩, .int .i64 0] 25)) w8 := ⟨hb8.os, hb8.tape, hb8.output, hb8.size, hb8.block⟩
  clear hb8 s0 s1 s2 s3
  have KT_8 := Lib.hid (keepB hb8' (heap_after KT_7.out (.cells #[.string ⟨#[]⟩, .int .i64 0] 25)))
  have KU_8 := Lib.hid (keepB hb8' (heap_after KU_7.out (.cells #[.string ⟨#[]⟩, .int .i64 0] 25)))
  have KV_8 := Lib.hid (keepB hb8' (new1_0 _ _))
  have HB8 := Lib.hid (bstep (balloc HB7.out _) hb8')
  clear hb8'
  have cT_0 := cells_of KT_8.out 0
  have cT_1 := cells_of KT_8.out 1
  simp only [List.getElem?_toArray, List.getElem?_cons_succ, List.getElem?_cons_zero] at cT_0 cT_1
  have zT := lt_of_block KT_8.out
  go_wp2_with fail
  refine (kn_cmp1 _).mono ?_
  rintro e w9 ⟨rfl, hb9⟩
  have KT_9 := Lib.hid (keepB hb9 KT_8.out)
  have HB9 := Lib.hid (bstep HB8.out hb9)
  clear hb9
  clear cT_0 cT_1 zT
  go_wp2_with fail
  refine (kn_of4 _).mono ?_
  rintro e w10 ⟨rfl, hb10⟩
  have KT_10 := Lib.hid (keepB hb10 KT_9.out)
  have HB10 := Lib.hid (bstep HB9.out hb10)
  clear hb10
  go_wp2_with fail
  refine (kn_of5 _).mono ?_
  rintro e w11 ⟨rfl, hb11⟩
  have KT_11 := Lib.hid (keepB hb11 KT_10.out)
  have HB11 := Lib.hid (bstep HB10.out hb11)
  clear hb11
  go_wp2_with fail
  refine (kn_cmp2 _).mono ?_
  rintro e w12 ⟨rfl, hb12⟩
  have KT_12 := Lib.hid (keepB hb12 KT_11.out)
  have HB12 := Lib.hid (bstep HB11.out hb12)
  clear hb12
  go_wp2_with fail
  refine (kn_cmp3 _).mono ?_
  rintro e w13 ⟨rfl, hb13⟩
  have KT_13 := Lib.hid (keepB hb13 KT_12.out)
  have HB13 := Lib.hid (bstep HB12.out hb13)
  clear hb13
  go_wp2_with fail
  refine (kn_put1 _).mono ?_
  rintro e w14 ⟨rfl, hb14⟩
  have KT_14 := Lib.hid (keepB hb14 KT_13.out)
  have HB14 := Lib.hid (bstep HB13.out hb14)
  clear hb14
  go_wp2_with fail
  refine (kn_put2 _).mono ?_
  rintro e w15 ⟨rfl, hb15⟩
  have KT_15 := Lib.hid (keepB hb15 (heap_after KT_14.out (.cells #[.string ⟨#[]⟩, .int .i64 0] 25)))
  have HB15 := Lib.hid (bstep (balloc HB14.out _) hb15)
  clear hb15
  go_wp2_with fail
  refine (kn_put3 _).mono ?_
  rintro e w16 ⟨rfl, hb16⟩
  have KT_16 := Lib.hid (keepB hb16 (heap_after KT_15.out (.cells #[.string ⟨#[]⟩, .int .i64 0] 25)))
  have KX_16 := Lib.hid (keepB hb16 (new1_0 _ _))
  have HB16 := Lib.hid (bstep (balloc HB15.out _) hb16)
  clear hb16
  go_wp2_with fail
  refine (kn_put4 _).mono ?_
  rintro e w17 ⟨rfl, hb17⟩
  have KT_17 := Lib.hid (keepB hb17 (heap_after KT_16.out (.cells #[.string ⟨#[]⟩, .int .i64 0] 25)))
  have KX_17 := Lib.hid (keepB hb17 (heap_after KX_16.out (.cells #[.string ⟨#[]⟩, .int .i64 0] 25)))
  have HB17 := Lib.hid (bstep (balloc HB16.out _) hb17)
  clear hb17
  have cT_0 := cells_of KT_17.out 0
  have cT_1 := cells_of KT_17.out 1
  simp only [List.getElem?_toArray, List.getElem?_cons_succ, List.getElem?_cons_zero] at cT_0 cT_1
  have zT := lt_of_block KT_17.out
  go_wp2_with fail
  refine (kn_get1 _).mono ?_
  rintro e w18 ⟨rfl, hb18⟩
  have KT_18 := Lib.hid (keepB hb18 (heap_after KT_17.out (.cells #[.string ⟨#[2, 1]⟩, .int .i64 16] 25)))
  have KX_18 := Lib.hid (keepB hb18 (heap_after KX_17.out (.cells #[.string ⟨#[2, 1]⟩, .int .i64 16] 25)))
  have KY_18 := Lib.hid (keepB hb18 (new1_0 _ _))
  have HB18 := Lib.hid (bstep (balloc HB17.out _) hb18)
  clear hb18
  clear cT_0 cT_1 zT
  have cT_0 := cells_of KT_18.out 0
  have cT_1 := cells_of KT_18.out 1
  simp only [List.getElem?_toArray, List.getElem?_cons_succ, List.getElem?_cons_zero] at cT_0 cT_1
  have zT := lt_of_block KT_18.out
  go_wp2_with fail
  refine (kn_get2 _).mono ?_
  rintro e w19 ⟨rfl, hb19⟩
  have KT_19 := Lib.hid (keepB hb19 KT_18.out)
  have KX_19 := Lib.hid (keepB hb19 KX_18.out)
  have KY_19 := Lib.hid (keepB hb19 KY_18.out)
  have HB19 := Lib.hid (bstep HB18.out hb19)
  clear hb19
  clear cT_0 cT_1 zT
  have cY_0 := cells_of KY_19.out 0
  have cY_1 := cells_of KY_19.out 1
  simp only [List.getElem?_toArray, List.getElem?_cons_succ, List.getElem?_cons_zero] at cY_0 cY_1
  have zY := lt_of_block KY_19.out
  go_wp2_with fail
  refine (kn_get3 _).mono ?_
  rintro e w20 ⟨rfl, hb20⟩
  have KX_20 := Lib.hid (keepB hb20 KX_19.out)
  have KY_20 := Lib.hid (keepB hb20 KY_19.out)
  have HB20 := Lib.hid (bstep HB19.out hb20)
  clear hb20
  clear cY_0 cY_1 zY
  go_wp2_with fail
  refine (kn_of6 _).mono ?_
  rintro e w21 ⟨rfl, hb21⟩
  have KX_21 := Lib.hid (keepB hb21 KX_20.out)
  have KY_21 := Lib.hid (keepB hb21 KY_20.out)
  have HB21 := Lib.hid (bstep HB20.out hb21)
  clear hb21
  go_wp2_with fail
  refine (kn_get4 _).mono ?_
  rintro e w22 ⟨rfl, hb22⟩
  have KX_22 := Lib.hid (keepB hb22 KX_21.out)
  have KY_22 := Lib.hid (keepB hb22 KY_21.out)
  have HB22 := Lib.hid (bstep HB21.out hb22)
  clear hb22
  go_wp2_with fail
  refine (kn_of6 _).mono ?_
  rintro e w23 ⟨rfl, hb23⟩
  have KX_23 := Lib.hid (keepB hb23 KX_22.out)
  have KY_23 := Lib.hid (keepB hb23 KY_22.out)
  have HB23 := Lib.hid (bstep HB22.out hb23)
  clear hb23
  go_wp2_with fail
  refine (kn_get5 _).mono ?_
  rintro e w24 ⟨rfl, hb24⟩
  have KX_24 := Lib.hid (keepB hb24 KX_23.out)
  have KY_24 := Lib.hid (keepB hb24 KY_23.out)
  have HB24 := Lib.hid (bstep HB23.out hb24)
  clear hb24
  have s0 : (w24).cell? ⟨w15.heap.size, 0, none⟩ = some (.string ⟨#[]⟩) := cells_of KX_24.out 0
  have s1 : (w24).cell? ⟨w15.heap.size, 1, none⟩ = some (.int .i64 0) := cells_of KX_24.out 1
  have s2 : (w24).cell? ⟨w17.heap.size, 0, none⟩ = some (.string ⟨#[2, 1]⟩) := cells_of KY_24.out 0
  have s3 : (w24).cell? ⟨w17.heap.size, 1, none⟩ = some (.int .i64 16) := cells_of KY_24.out 1
  go_wp2_with fail
  go_region_held3 (fun w' => w'.cell? ⟨w15.heap.size, 0, none⟩ = some (.string ⟨#[]⟩) ∧ w'.cell? ⟨w15.heap.size, 1, none⟩ = some (.int .i64 0) ∧ w'.cell? ⟨w17.heap.size, 0, none⟩ = some (.string ⟨#[2, 1]⟩) ∧ w'.cell? ⟨w17.heap.size, 1, none⟩ = some (.int .i64 16))
    (first
      | (exact ⟨s0, s1, s2, s3⟩)
      | (go_split_ands; refine ⟨?_, ?_, ?_, ?_⟩ <;> exact below_keep hb26 (by assumption))
      | (go_split_ands; refine ⟨?_, ?_, ?_, ?_⟩ <;> exact below_keep hb25 (by assumption))
    )
    (first
      | (go_at_call 20; refine (kn_of7 _).mono ?_; rintro e w25 ⟨rfl, hb25⟩)
      | (go_at_call 13; refine (awake_any _).mono ?_; rintro e w26 ⟨rfl, hb26⟩))
  have HBe := Lib.hid (bstep (bstep HB24.out (show Below w24.heap.size w24 w25 from ⟨hb25.os, hb25.tape, hb25.output, hb25.size, hb25.block⟩)) hb26)
  go_wp2_with fail
  go_ret
  exact ⟨rfl, HBe.out⟩
end Go.Proofs.Ytdgjbejbbmnhbaa
