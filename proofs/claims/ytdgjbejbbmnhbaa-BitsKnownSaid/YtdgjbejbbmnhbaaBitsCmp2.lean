/-
  Walks: Cmp where one or both are not valid; Cmp of any two.
-/
import Derived.Test.YtdgjbejbbmnhbaaBitsCmp
namespace Go.Proofs.Ytdgjbejbbmnhbaa
open Go.RowKit Go.Proofs.BitsM
theorem two_blk {w : World} {B : Nat} {c0 c1 : Value} {t : TypeId} (h : w.heap[B]? = some (.cells #[c0, c1] t (0, 0))) (a b : Value) : ((w.setCell ⟨B, 0, none⟩ a).setCell ⟨B, 1, none⟩ b).heap[B]? = some (.cells #[a, b] t (0, 0)) := by
  rw [block_setCell (block_setCell h 0 a) 1 b]; rfl
set_option maxRecDepth 100000 in
set_option maxHeartbeats 2000000 in
theorem Cmp_iv (s : ByteArray) (n : Int) (hs : s.size ≤ maxLen) (hn : i64ok n) (hi : validB s n = false) (Y : List Bool) (M : Nat) (hM : Y.length = M) (hY : M ≤ 40000) (w : World) :
    Calls Try.prog 32 #[.agg #[.string s, .int .i64 n], .agg #[.string (packS Y), .int .i64 M]] w fun e w' => e = .returned (.int .i64 (cmpL [] Y)) ∧ Below w.heap.size w w' := by
  have hV := fun W => Valid_any s n hs hn.1 hn.2 W
  rw [hi] at hV
  have hW := fun W => Valid_any (packS Y) M (by rw [packS_size, maxLen_val]; omega) (by omega) (by omega) W
  rw [← hM, pack_valid, hM] at hW
  have HV := Lib.hid hV
  have HW := Lib.hid hW
  have HR1 := Lib.hid (fun h : 0 < M => show Ending.returned (Value.int .i64 (cmpL [] Y)) = .returned (.int .i64 (-1)) by cases Y with | nil => simp at hM; omega | cons a x => rfl)
  have HR0 := Lib.hid (fun h : M = 0 => show Ending.returned (Value.int .i64 (cmpL [] Y)) = .returned (.int .i64 0) by cases Y with | nil => rfl | cons a x => simp at hM; omega)
  clear hM
  clear hV hW hi
  generalize packS Y = t at *
  have hcz : Go.Lib.compareBytes [] [] = 0 := rfl
  go_enter Try.func32, Try.ntmps32
  go_wp2_with fail
  refine (HV.out _).mono ?_
  rintro e w1 ⟨rfl, hb1⟩
  have HA1 := Lib.hid (keepB hb1 (new2_0 _ _ _))
  have HY1 := Lib.hid (keepB hb1 (new2_1 _ _ _))
  have HB1 := Lib.hid (bstep (balloc (below_alloc _ _) _) hb1)
  have a0 := cells_of HA1.out 0
  have a1 := cells_of HA1.out 1
  have f0 := frees_of HA1.out 0
  have f1 := frees_of HA1.out 1
  have b0 := cells_of HY1.out 0
  have b1 := cells_of HY1.out 1
  simp only [List.getElem?_toArray, List.getElem?_cons_succ, List.getElem?_cons_zero] at a0 a1 b0 b1
  have hz := lt_of_block HY1.out
  clear hb1
  go_wp2_with fail
  refine (HW.out _).mono ?_
  rintro e w2 ⟨rfl, hb2⟩
  have HA2 := Lib.hid (keepB hb2 (two_blk HA1.out (.string ⟨#[]⟩) (.int .i64 0)))
  have HY2 := Lib.hid (keepB hb2 ((Below.heap_setCell _ _ _ _ (by simp)).trans ((Below.heap_setCell _ _ _ _ (by simp)).trans HY1.out)))
  have HB2 := Lib.hid (bstep (bset (bset HB1.out (Nat.le_refl _) _) (Nat.le_refl _) _) hb2)
  clear a0 a1 b0 b1 f0 f1 hb2
  have a0 := cells_of HA2.out 0
  have a1 := cells_of HA2.out 1
  have b0 := cells_of HY2.out 0
  have b1 := cells_of HY2.out 1
  have f0 := frees_of HY2.out 0
  have f1 := frees_of HY2.out 1
  simp only [List.getElem?_toArray, List.getElem?_cons_succ, List.getElem?_cons_zero] at a0 a1 b0 b1
  go_wp2_with fail
  all_goals
    go_quiet ((go_at_call 44; exact quiet_here (fun W => compare_any _ _ W)))
    go_wp2_with fail
    go_loopw [7] (fun i wr => i = .int .i64 0 ∧ Hid (wr.heap[w.heap.size]? = some (.cells #[.string ⟨#[]⟩, .int .i64 0] 25 (0, 0))) ∧ Hid (wr.heap[w.heap.size + 1]? = some (.cells #[.string t, .int .i64 M] 25 (0, 0))) ∧ Hid (Below w.heap.size w wr)) (fun i _ => 1)
    case atStart => exact ⟨rfl, HA2, HY2, Lib.hid (below_drewN HB2.out _)⟩
    case round =>
      clear a0 a1 b0 b1 f0 f1
      obtain ⟨rfl, HA, HY, HB⟩ := hrel
      have a0 := cells_of HA.out 0
      have a1 := cells_of HA.out 1
      have b0 := cells_of HY.out 0
      have b1 := cells_of HY.out 1
      simp only [List.getElem?_toArray, List.getElem?_cons_succ, List.getElem?_cons_zero] at a0 a1 b0 b1
      by_cases h0 : 0 < M
      · have h0' : (0 : Int) < (M : Int) := by omega
        go_wp2_with fail
        go_ret
        exact ⟨(HR1.out h0).symm, HB.out⟩
      · have h0' : ¬ (0 : Int) < (M : Int) := by omega
        go_wp2_with fail
        go_ret
        exact ⟨(HR0.out (by omega)).symm, HB.out⟩
set_option maxRecDepth 100000 in
set_option maxHeartbeats 2000000 in
theorem Cmp_vi (X : List Bool) (N : Nat) (hN : X.length = N) (hX : N ≤ 40000) (t : ByteArray) (m : Int) (ht : t.size ≤ maxLen) (hm : i64ok m) (hj : validB t m = false) (w : World) :
    Calls Try.prog 32 #[.agg #[.string (packS X), .int .i64 N], .agg #[.string t, .int .i64 m]] w fun e w' => e = .returned (.int .i64 (cmpL X [])) ∧ Below w.heap.size w w' := by
  have hV := fun W => Valid_any (packS X) N (by rw [packS_size, maxLen_val]; omega) (by omega) (by omega) W
  rw [← hN, pack_valid, hN] at hV
  have hW := fun W => Valid_any t m ht hm.1 hm.2 W
  rw [hj] at hW
  have HV := Lib.hid hV
  have HW := Lib.hid hW
  have HR1 := Lib.hid (fun h : 0 < N => show Ending.returned (Value.int .i64 (cmpL X [])) = .returned (.int .i64 1) by cases X with | nil => simp at hN; omega | cons a x => rfl)
  have HR0 := Lib.hid (fun h : N = 0 => show Ending.returned (Value.int .i64 (cmpL X [])) = .returned (.int .i64 0) by cases X with | nil => rfl | cons a x => simp at hN; omega)
  clear hN
  clear hV hW hj
  generalize packS X = s at *
  have hcz : Go.Lib.compareBytes [] [] = 0 := rfl
  go_enter Try.func32, Try.ntmps32
  go_wp2_with fail
  refine (HV.out _).mono ?_
  rintro e w1 ⟨rfl, hb1⟩
  have HA1 := Lib.hid (keepB hb1 (new2_0 _ _ _))
  have HY1 := Lib.hid (keepB hb1 (new2_1 _ _ _))
  have HB1 := Lib.hid (bstep (balloc (below_alloc _ _) _) hb1)
  have a0 := cells_of HA1.out 0
  have a1 := cells_of HA1.out 1
  have f0 := frees_of HA1.out 0
  have f1 := frees_of HA1.out 1
  have b0 := cells_of HY1.out 0
  have b1 := cells_of HY1.out 1
  simp only [List.getElem?_toArray, List.getElem?_cons_succ, List.getElem?_cons_zero] at a0 a1 b0 b1
  have hz := lt_of_block HY1.out
  clear hb1
  go_wp2_with fail
  refine (HW.out _).mono ?_
  rintro e w2 ⟨rfl, hb2⟩
  have HA2 := Lib.hid (keepB hb2 HA1.out)
  have HY2 := Lib.hid (keepB hb2 HY1.out)
  have HB2 := Lib.hid (bstep HB1.out hb2)
  clear a0 a1 b0 b1 f0 f1 hb2
  have a0 := cells_of HA2.out 0
  have a1 := cells_of HA2.out 1
  have b0 := cells_of HY2.out 0
  have b1 := cells_of HY2.out 1
  have f0 := frees_of HY2.out 0
  have f1 := frees_of HY2.out 1
  simp only [List.getElem?_toArray, List.getElem?_cons_succ, List.getElem?_cons_zero] at a0 a1 b0 b1
  by_cases hq : 0 < N
  all_goals
    have hq' : (0 : Int) ≤ (N : Int) := by omega
    try have hq2 : ¬ (N : Int) ≤ 0 := by omega
    try have hq3 : (N : Int) = 0 := by omega
    go_wp2_with fail
    all_goals (try (exfalso; omega))
    go_quiet ((go_at_call 44; exact quiet_here (fun W => compare_any _ _ W)))
    go_wp2_with fail
    go_loopw [7] (fun i wr => i = .int .i64 0 ∧ Hid (wr.heap[w.heap.size]? = some (.cells #[.string s, .int .i64 N] 25 (0, 0))) ∧ Hid (wr.heap[w.heap.size + 1]? = some (.cells #[.string ⟨#[]⟩, .int .i64 0] 25 (0, 0))) ∧ Hid (Below w.heap.size w wr)) (fun i _ => 1)
    case atStart => exact ⟨rfl, Lib.hid ((Below.heap_setCell _ _ _ _ (by simp)).trans ((Below.heap_setCell _ _ _ _ (by simp)).trans HA2.out)), Lib.hid (two_blk HY2.out (.string ⟨#[]⟩) (.int .i64 0)), Lib.hid (below_drewN (bset (bset HB2.out (by simp) _) (by simp) _) _)⟩
    case round =>
      clear a0 a1 b0 b1 f0 f1
      obtain ⟨rfl, HA, HY, HB⟩ := hrel
      have a0 := cells_of HA.out 0
      have a1 := cells_of HA.out 1
      have b0 := cells_of HY.out 0
      have b1 := cells_of HY.out 1
      simp only [List.getElem?_toArray, List.getElem?_cons_succ, List.getElem?_cons_zero] at a0 a1 b0 b1
      go_wp2_with fail
      all_goals (try (exfalso; omega))
      go_ret
      first
        | exact ⟨(HR1.out (by omega)).symm, HB.out⟩
        | exact ⟨(HR0.out (by omega)).symm, HB.out⟩
set_option maxRecDepth 100000 in
set_option maxHeartbeats 2000000 in
theorem Cmp_ii (s : ByteArray) (n : Int) (hs : s.size ≤ maxLen) (hn : i64ok n) (hi : validB s n = false) (t : ByteArray) (m : Int) (ht : t.size ≤ maxLen) (hm : i64ok m) (hj : validB t m = false) (w : World) :
    Calls Try.prog 32 #[.agg #[.string s, .int .i64 n], .agg #[.string t, .int .i64 m]] w fun e w' => e = .returned (.int .i64 (cmpL [] [])) ∧ Below w.heap.size w w' := by
  have hV := fun W => Valid_any s n hs hn.1 hn.2 W
  rw [hi] at hV
  have hW := fun W => Valid_any t m ht hm.1 hm.2 W
  rw [hj] at hW
  have HV := Lib.hid hV
  have HW := Lib.hid hW
  clear hV hW hi hj
  have hcz : Go.Lib.compareBytes [] [] = 0 := rfl
  go_enter Try.func32, Try.ntmps32
  go_wp2_with fail
  refine (HV.out _).mono ?_
  rintro e w1 ⟨rfl, hb1⟩
  have HA1 := Lib.hid (keepB hb1 (new2_0 _ _ _))
  have HY1 := Lib.hid (keepB hb1 (new2_1 _ _ _))
  have HB1 := Lib.hid (bstep (balloc (below_alloc _ _) _) hb1)
  have a0 := cells_of HA1.out 0
  have a1 := cells_of HA1.out 1
  have f0 := frees_of HA1.out 0
  have f1 := frees_of HA1.out 1
  have b0 := cells_of HY1.out 0
  have b1 := cells_of HY1.out 1
  simp only [List.getElem?_toArray, List.getElem?_cons_succ, List.getElem?_cons_zero] at a0 a1 b0 b1
  have hz := lt_of_block HY1.out
  clear hb1
  go_wp2_with fail
  refine (HW.out _).mono ?_
  rintro e w2 ⟨rfl, hb2⟩
  have HA2 := Lib.hid (keepB hb2 (two_blk HA1.out (.string ⟨#[]⟩) (.int .i64 0)))
  have HY2 := Lib.hid (keepB hb2 ((Below.heap_setCell _ _ _ _ (by simp)).trans ((Below.heap_setCell _ _ _ _ (by simp)).trans HY1.out)))
  have HB2 := Lib.hid (bstep (bset (bset HB1.out (Nat.le_refl _) _) (Nat.le_refl _) _) hb2)
  clear a0 a1 b0 b1 f0 f1 hb2
  have a0 := cells_of HA2.out 0
  have a1 := cells_of HA2.out 1
  have b0 := cells_of HY2.out 0
  have b1 := cells_of HY2.out 1
  have f0 := frees_of HY2.out 0
  have f1 := frees_of HY2.out 1
  simp only [List.getElem?_toArray, List.getElem?_cons_succ, List.getElem?_cons_zero] at a0 a1 b0 b1
  go_wp2_with fail
  all_goals
    go_quiet ((go_at_call 44; exact quiet_here (fun W => compare_any _ _ W)))
    go_wp2_with fail
    go_loopw [7] (fun i wr => i = .int .i64 0 ∧ Hid (wr.heap[w.heap.size]? = some (.cells #[.string ⟨#[]⟩, .int .i64 0] 25 (0, 0))) ∧ Hid (wr.heap[w.heap.size + 1]? = some (.cells #[.string ⟨#[]⟩, .int .i64 0] 25 (0, 0))) ∧ Hid (Below w.heap.size w wr)) (fun i _ => 1)
    case atStart => exact ⟨rfl, Lib.hid ((Below.heap_setCell _ _ _ _ (by simp)).trans ((Below.heap_setCell _ _ _ _ (by simp)).trans HA2.out)), Lib.hid (two_blk HY2.out (.string ⟨#[]⟩) (.int .i64 0)), Lib.hid (below_drewN (bset (bset HB2.out (by simp) _) (by simp) _) _)⟩
    case round =>
      clear a0 a1 b0 b1 f0 f1
      obtain ⟨rfl, HA, HY, HB⟩ := hrel
      have a0 := cells_of HA.out 0
      have a1 := cells_of HA.out 1
      have b0 := cells_of HY.out 0
      have b1 := cells_of HY.out 1
      simp only [List.getElem?_toArray, List.getElem?_cons_succ, List.getElem?_cons_zero] at a0 a1 b0 b1
      go_wp2_with fail
      go_ret
      exact ⟨rfl, HB.out⟩
theorem Cmp_any (s : ByteArray) (n : Int) (t : ByteArray) (m : Int) (hs : s.size ≤ 4096) (ht : t.size ≤ 4096) (hn : i64ok n) (hm : i64ok m) (w : World) :
    Calls Try.prog 32 #[.agg #[.string s, .int .i64 n], .agg #[.string t, .int .i64 m]] w fun e w' => e = .returned (.int .i64 (cmpR s n t m)) ∧ Below w.heap.size w w' := by
  have hs' : s.size ≤ maxLen := by rw [maxLen_val]; omega
  have ht' : t.size ≤ maxLen := by rw [maxLen_val]; omega
  unfold cmpR bitsOf
  have hpk : ∀ (s : ByteArray) (n : Int), s.size ≤ 4096 → validB s n = true → ∃ (X : List Bool) (N : Nat), bitsB s 0 n.toNat = X ∧ X.length = N ∧ N ≤ 40000 ∧ s = packS X ∧ n = (N : Int) := by
    intro s n hs hv
    obtain ⟨h0, hl⟩ := valid_size hv
    obtain ⟨N, rfl⟩ := Int.eq_ofNat_of_zero_le h0
    refine ⟨_, N, rfl, by simp, by unfold lenB at hl; omega, (valid_pack hv).symm, rfl⟩
  cases hv : validB s n
  · cases hw : validB t m
    · exact Cmp_ii s n hs' hn hv t m ht' hm hw w
    · obtain ⟨Y, M, e1, e2, e3, rfl, rfl⟩ := hpk t m ht hw
      rw [if_neg (by decide), if_pos rfl, e1]
      exact Cmp_iv s n hs' hn hv Y M e2 e3 w
  · obtain ⟨X, N, e1, e2, e3, rfl, rfl⟩ := hpk s n hs hv
    rw [if_pos rfl, e1]
    cases hw : validB t m
    · rw [if_neg (by decide)]
      exact Cmp_vi X N e2 e3 t m ht' hm hw w
    · obtain ⟨Y, M, e1', e2', e3', rfl, rfl⟩ := hpk t m ht hw
      rw [if_pos rfl, e1']
      rcases Nat.lt_or_ge M N with h | h
      · exact Cmp_vvM X Y N M e2 e2' e3 e3' h w
      · exact Cmp_vvN X Y N M e2 e2' e3 e3' h w
end Go.Proofs.Ytdgjbejbbmnhbaa
