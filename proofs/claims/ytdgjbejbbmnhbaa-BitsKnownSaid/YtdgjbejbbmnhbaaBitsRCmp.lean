/-
  Walks: the reference's Cmp.
-/
import Derived.Test.YtdgjbejbbmnhbaaBitsCmp2
namespace Go.Proofs.Ytdgjbejbbmnhbaa
open Go.RowKit Go.Proofs.BitsM
theorem iv_get (X : List Bool) (k : Nat) (h : k < X.length) : (iv X)[k]? = some (.int .i64 (((X.getD k false).toNat : Nat) : Int)) := by
  simp only [iv, b01, List.map_map, List.getElem?_map, List.getElem?_eq_getElem h, List.getD, Option.map_some, Option.getD_some, Function.comp]
set_option maxRecDepth 100000 in
set_option maxHeartbeats 4000000 in
theorem rCmp_vv (X : List Bool) (N : Nat) (hN : X.length = N) (hX : N ≤ 32768) (Y : List Bool) (M : Nat) (hM : Y.length = M) (hY : M ≤ 32768) (w : World) :
    Calls Try.prog 33 #[.agg #[.string (packS X), .int .i64 N], .agg #[.string (packS Y), .int .i64 M]] w fun e w' => e = .returned (.int .i64 (cmpL X Y)) ∧ Below w.heap.size w w' := by
  have hV := fun W => rValid_any (packS X) N (by rw [packS_size, maxLen_val]; omega) (by omega) (by omega) W
  rw [← hN, pack_valid, hN] at hV
  have hLx := fun W => List_any (packS X) N (by rw [packS_size]; omega) (by rw [packS_size]; omega) W
  have hallX := bitsB_all X
  rw [hN] at hallX
  rw [hallX] at hLx
  have hW := fun W => rValid_any (packS Y) M (by rw [packS_size, maxLen_val]; omega) (by omega) (by omega) W
  rw [← hM, pack_valid, hM] at hW
  have hLy := fun W => List_any (packS Y) M (by rw [packS_size]; omega) (by rw [packS_size]; omega) W
  have hallY := bitsB_all Y
  rw [hM] at hallY
  rw [hallY] at hLy
  have HV := Lib.hid hV
  have HW := Lib.hid hW
  have HLx := Lib.hid hLx
  have HN := Lib.hid hN
  have HLy := Lib.hid hLy
  have HM := Lib.hid hM
  clear hV hW hLx hallX hN hLy hallY hM
  generalize packS X = s at *
  generalize packS Y = t at *
  go_enter Try.func33, Try.ntmps33
  go_wp2_with fail
  refine (HV.out _).mono ?_
  rintro e w1 ⟨rfl, hb1⟩
  have HA1 := Lib.hid (keepB hb1 (new2_0 _ _ _))
  have HY1 := Lib.hid (keepB hb1 (new2_1 _ _ _))
  have HB1 := Lib.hid (bstep (balloc (below_alloc _ _) _) hb1)
  have a0 := cells_of HA1.out 0
  have a1 := cells_of HA1.out 1
  have b0 := cells_of HY1.out 0
  have b1 := cells_of HY1.out 1
  simp only [List.getElem?_toArray, List.getElem?_cons_succ, List.getElem?_cons_zero] at a0 a1 b0 b1
  clear hb1
  go_wp2_with fail
  refine (HLx.out _).mono ?_
  rintro e w2 ⟨vx, rfl, ho2, hb2⟩
  have HY2 := Lib.hid (keepB hb2 HY1.out)
  have HB2 := Lib.hid (bstep HB1.out hb2)
  have HO2 := Lib.hid ho2
  clear hb2 ho2 a0 a1 b0 b1
  have b0 := cells_of HY2.out 0
  have b1 := cells_of HY2.out 1
  simp only [List.getElem?_toArray, List.getElem?_cons_succ, List.getElem?_cons_zero] at b0 b1
  go_wp2_with fail
  refine (HW.out _).mono ?_
  rintro e w3 ⟨rfl, hb3⟩
  have HY3 := Lib.hid (keepB hb3 HY2.out)
  have HB3 := Lib.hid (bstep HB2.out hb3)
  have HO3 := Lib.hid (own_below HO2.out hb3)
  clear hb3 b0 b1
  have b0 := cells_of HY3.out 0
  have b1 := cells_of HY3.out 1
  simp only [List.getElem?_toArray, List.getElem?_cons_succ, List.getElem?_cons_zero] at b0 b1
  go_wp2_with fail
  refine (HLy.out _).mono ?_
  rintro e w4 ⟨vy, rfl, ho4, hb4⟩
  have HB4 := Lib.hid (bstep HB3.out hb4)
  have HO4 := Lib.hid (own_below HO3.out hb4)
  have HP4 := Lib.hid ho4
  clear hb4 ho4 b0 b1
  obtain ⟨aox, capx, rfl, -, -, hax⟩ := own_shape2 HO4.out
  have HAX := Lib.hid hax
  clear hax
  obtain ⟨aoy, capy, rfl, -, -, hay⟩ := own_shape2 HP4.out
  have HAY := Lib.hid hay
  clear hay
  go_wp2_with fail
  go_loopw [7] (fun i wr => ∃ k : Nat, k ≤ N ∧ k ≤ M ∧ i = .int .i64 k ∧ Hid ((X : List Bool).take k = (Y : List Bool).take k) ∧ Hid (wr.ownsRow w1.heap.size 3 1 (.slice aox N capx) N (iv X)) ∧ Hid (wr.ownsRow w3.heap.size 3 1 (.slice aoy M capy) M (iv Y)) ∧ Hid (Below w.heap.size w wr)) (fun i _ => N - (intOf i).toNat)
  case atStart => exact ⟨0, by omega, by omega, rfl, Lib.hid rfl, HO4, HP4, HB4⟩
  case round =>
    obtain ⟨k, hk1, hk2, rfl, HE, HO, HP, HB⟩ := hrel
    by_cases h1 : k < N
    · have h1' : (k : Int) < (N : Int) := by omega
      by_cases h2 : k < M
      · have h2' : (k : Int) < (M : Int) := by omega
        obtain ⟨gx, rfl, -⟩ := HAX.out (by omega)
        obtain ⟨gy, rfl, -⟩ := HAY.out (by omega)
        have cx := own_cell HO.out k h1
        have cy := own_cell HP.out k h2
        rw [iv_get X k (by rw [HN.out]; exact h1)] at cx
        rw [iv_get Y k (by rw [HM.out]; exact h2)] at cy
        by_cases hb : X.getD k false = Y.getD k false
        · have HEQ := Lib.hid hb
          rw [← hb] at cy
          clear hb
          have hx1 : (X.getD k false).toNat ≤ 1 := by cases X.getD k false <;> simp
          generalize (X.getD k false).toNat = x at cx cy hx1
          go_wp2_with fail
          go_quiet (fail)
          go_wp2_with fail
          go_roundw
          case rel => exact ⟨k + 1, by omega, by omega, by go_num, Lib.hid (take_step HE.out (by rw [HN.out]; omega) (by rw [HM.out]; omega) HEQ.out), HO, HP, Lib.hid (below_drewN HB.out _)⟩
          case measure => simp only [intOf]; omega
        · have HF := Lib.hid (show Ending.returned (Value.int .i64 (cmpL X Y)) = .returned (.int .i64 ((((X.getD k false).toNat : Nat) : Int) - (((Y.getD k false).toNat : Nat) : Int))) by rw [cmpL_at HE.out (by rw [HN.out]; omega) (by rw [HM.out]; omega) hb])
          have hd : ((((X.getD k false).toNat : Nat) : Int) != (((Y.getD k false).toNat : Nat) : Int)) = true := by
            revert hb; cases X.getD k false <;> cases Y.getD k false <;> simp
          have hx1 : (X.getD k false).toNat ≤ 1 := by cases X.getD k false <;> simp
          have hy1 : (Y.getD k false).toNat ≤ 1 := by cases Y.getD k false <;> simp
          clear hb
          generalize (X.getD k false).toNat = x at cx hd HF hx1
          generalize (Y.getD k false).toNat = y at cy hd HF hy1
          go_wp2_with fail
          go_quiet (fail)
          go_wp2_with fail
          go_quiet (fail)
          go_wp2_with fail
          go_ret
          exact ⟨HF.out.symm, below_drewN (below_drewN HB.out _) _⟩
      · have h2' : ¬ (k : Int) < (M : Int) := by omega
        have hend := cmpL_end HE.out (by rw [HN.out, HM.out]; omega)
        rw [HN.out, HM.out] at hend
        have HF1 := Lib.hid (fun h : N < M => show Ending.returned (Value.int .i64 (cmpL X Y)) = .returned (.int .i64 (-1)) by rw [hend, if_pos h])
        have HF2 := Lib.hid (fun h : M < N => show Ending.returned (Value.int .i64 (cmpL X Y)) = .returned (.int .i64 1) by rw [hend, if_neg (by omega), if_pos h])
        have HF3 := Lib.hid (fun h : N = M => show Ending.returned (Value.int .i64 (cmpL X Y)) = .returned (.int .i64 0) by rw [hend, if_neg (by omega), if_neg (by omega)])
        clear hend
        go_wp2_with fail
        all_goals (try (exfalso; omega))
        all_goals
          go_ret
          first
            | exact ⟨(HF1.out (by omega)).symm, HB.out⟩
            | exact ⟨(HF2.out (by omega)).symm, HB.out⟩
            | exact ⟨(HF3.out (by omega)).symm, HB.out⟩
    · have h1' : ¬ (k : Int) < (N : Int) := by omega
      have hend := cmpL_end HE.out (by rw [HN.out, HM.out]; omega)
      rw [HN.out, HM.out] at hend
      have HF1 := Lib.hid (fun h : N < M => show Ending.returned (Value.int .i64 (cmpL X Y)) = .returned (.int .i64 (-1)) by rw [hend, if_pos h])
      have HF2 := Lib.hid (fun h : M < N => show Ending.returned (Value.int .i64 (cmpL X Y)) = .returned (.int .i64 1) by rw [hend, if_neg (by omega), if_pos h])
      have HF3 := Lib.hid (fun h : N = M => show Ending.returned (Value.int .i64 (cmpL X Y)) = .returned (.int .i64 0) by rw [hend, if_neg (by omega), if_neg (by omega)])
      clear hend
      go_wp2_with fail
      all_goals (try (exfalso; omega))
      all_goals
        go_ret
        first
          | exact ⟨(HF1.out (by omega)).symm, HB.out⟩
          | exact ⟨(HF2.out (by omega)).symm, HB.out⟩
          | exact ⟨(HF3.out (by omega)).symm, HB.out⟩
set_option maxRecDepth 100000 in
set_option maxHeartbeats 4000000 in
theorem rCmp_vi (X : List Bool) (N : Nat) (hN : X.length = N) (hX : N ≤ 32768) (t : ByteArray) (m : Int) (ht : t.size ≤ maxLen) (hm : i64ok m) (hj : validB t m = false) (w : World) :
    Calls Try.prog 33 #[.agg #[.string (packS X), .int .i64 N], .agg #[.string t, .int .i64 m]] w fun e w' => e = .returned (.int .i64 (cmpL X [])) ∧ Below w.heap.size w w' := by
  have hV := fun W => rValid_any (packS X) N (by rw [packS_size, maxLen_val]; omega) (by omega) (by omega) W
  rw [← hN, pack_valid, hN] at hV
  have hLx := fun W => List_any (packS X) N (by rw [packS_size]; omega) (by rw [packS_size]; omega) W
  have hallX := bitsB_all X
  rw [hN] at hallX
  rw [hallX] at hLx
  have hW := fun W => rValid_any t m ht hm.1 hm.2 W
  rw [hj] at hW
  have HV := Lib.hid hV
  have HW := Lib.hid hW
  have HLx := Lib.hid hLx
  have HN := Lib.hid hN
  have HM := Lib.hid (show ([] : List Bool).length = 0 from rfl)
  clear hV hW hLx hallX hN hj
  generalize packS X = s at *
  go_enter Try.func33, Try.ntmps33
  go_wp2_with fail
  refine (HV.out _).mono ?_
  rintro e w1 ⟨rfl, hb1⟩
  have HA1 := Lib.hid (keepB hb1 (new2_0 _ _ _))
  have HY1 := Lib.hid (keepB hb1 (new2_1 _ _ _))
  have HB1 := Lib.hid (bstep (balloc (below_alloc _ _) _) hb1)
  have a0 := cells_of HA1.out 0
  have a1 := cells_of HA1.out 1
  have b0 := cells_of HY1.out 0
  have b1 := cells_of HY1.out 1
  simp only [List.getElem?_toArray, List.getElem?_cons_succ, List.getElem?_cons_zero] at a0 a1 b0 b1
  clear hb1
  go_wp2_with fail
  refine (HLx.out _).mono ?_
  rintro e w2 ⟨vx, rfl, ho2, hb2⟩
  have HY2 := Lib.hid (keepB hb2 HY1.out)
  have HB2 := Lib.hid (bstep HB1.out hb2)
  have HO2 := Lib.hid ho2
  clear hb2 ho2 a0 a1 b0 b1
  have b0 := cells_of HY2.out 0
  have b1 := cells_of HY2.out 1
  simp only [List.getElem?_toArray, List.getElem?_cons_succ, List.getElem?_cons_zero] at b0 b1
  go_wp2_with fail
  refine (HW.out _).mono ?_
  rintro e w3 ⟨rfl, hb3⟩
  have HY3 := Lib.hid (keepB hb3 HY2.out)
  have HB3 := Lib.hid (bstep HB2.out hb3)
  have HO3 := Lib.hid (own_below HO2.out hb3)
  clear hb3 b0 b1
  have b0 := cells_of HY3.out 0
  have b1 := cells_of HY3.out 1
  simp only [List.getElem?_toArray, List.getElem?_cons_succ, List.getElem?_cons_zero] at b0 b1
  have HB4 := HB3
  have HO4 := HO3
  have HP4 := Lib.hid (World.ownsRow_nil w3 w3.heap.size 3 1)
  obtain ⟨aox, capx, rfl, -, -, hax⟩ := own_shape2 HO4.out
  have HAX := Lib.hid hax
  clear hax
  go_wp2_with fail
  go_loopw [7] (fun i wr => ∃ k : Nat, k ≤ N ∧ k ≤ 0 ∧ i = .int .i64 k ∧ Hid ((X : List Bool).take k = ([] : List Bool).take k) ∧ Hid (wr.ownsRow w1.heap.size 3 1 (.slice aox N capx) N (iv X)) ∧ Hid (wr.ownsRow w3.heap.size 3 1 (.slice none 0 0) 0 (iv [])) ∧ Hid (Below w.heap.size w wr)) (fun i _ => N - (intOf i).toNat)
  case atStart => exact ⟨0, by omega, by omega, rfl, Lib.hid rfl, HO4, HP4, HB4⟩
  case round =>
    obtain ⟨k, hk1, hk2, rfl, HE, HO, HP, HB⟩ := hrel
    obtain rfl : k = 0 := by omega
    by_cases hq : 0 < N
    all_goals
      try have hq1 : (0 : Int) < (N : Int) := by omega
      try have hq2 : ¬ (0 : Int) < (N : Int) := by omega
      have hend := cmpL_end HE.out (by rw [HN.out, HM.out]; omega)
      rw [HN.out, HM.out] at hend
      have HF1 := Lib.hid (fun h : N < 0 => show Ending.returned (Value.int .i64 (cmpL X [])) = .returned (.int .i64 (-1)) by rw [hend, if_pos h])
      have HF2 := Lib.hid (fun h : 0 < N => show Ending.returned (Value.int .i64 (cmpL X [])) = .returned (.int .i64 1) by rw [hend, if_neg (by omega), if_pos h])
      have HF3 := Lib.hid (fun h : N = 0 => show Ending.returned (Value.int .i64 (cmpL X [])) = .returned (.int .i64 0) by rw [hend, if_neg (by omega), if_neg (by omega)])
      clear hend
      go_wp2_with fail
      all_goals (try (exfalso; omega))
      all_goals
        go_ret
        first
          | exact ⟨(HF1.out (by omega)).symm, HB.out⟩
          | exact ⟨(HF2.out (by omega)).symm, HB.out⟩
          | exact ⟨(HF3.out (by omega)).symm, HB.out⟩
set_option maxRecDepth 100000 in
set_option maxHeartbeats 4000000 in
theorem rCmp_iv (s : ByteArray) (n : Int) (hs : s.size ≤ maxLen) (hn : i64ok n) (hi : validB s n = false) (Y : List Bool) (M : Nat) (hM : Y.length = M) (hY : M ≤ 32768) (w : World) :
    Calls Try.prog 33 #[.agg #[.string s, .int .i64 n], .agg #[.string (packS Y), .int .i64 M]] w fun e w' => e = .returned (.int .i64 (cmpL [] Y)) ∧ Below w.heap.size w w' := by
  have hV := fun W => rValid_any s n hs hn.1 hn.2 W
  rw [hi] at hV
  have hW := fun W => rValid_any (packS Y) M (by rw [packS_size, maxLen_val]; omega) (by omega) (by omega) W
  rw [← hM, pack_valid, hM] at hW
  have hLy := fun W => List_any (packS Y) M (by rw [packS_size]; omega) (by rw [packS_size]; omega) W
  have hallY := bitsB_all Y
  rw [hM] at hallY
  rw [hallY] at hLy
  have HV := Lib.hid hV
  have HW := Lib.hid hW
  have HN := Lib.hid (show ([] : List Bool).length = 0 from rfl)
  have HLy := Lib.hid hLy
  have HM := Lib.hid hM
  clear hV hW hi hLy hallY hM
  generalize packS Y = t at *
  go_enter Try.func33, Try.ntmps33
  go_wp2_with fail
  refine (HV.out _).mono ?_
  rintro e w1 ⟨rfl, hb1⟩
  have HA1 := Lib.hid (keepB hb1 (new2_0 _ _ _))
  have HY1 := Lib.hid (keepB hb1 (new2_1 _ _ _))
  have HB1 := Lib.hid (bstep (balloc (below_alloc _ _) _) hb1)
  have a0 := cells_of HA1.out 0
  have a1 := cells_of HA1.out 1
  have b0 := cells_of HY1.out 0
  have b1 := cells_of HY1.out 1
  simp only [List.getElem?_toArray, List.getElem?_cons_succ, List.getElem?_cons_zero] at a0 a1 b0 b1
  clear hb1
  have HY2 := HY1
  have HB2 := HB1
  have HO2 := Lib.hid (World.ownsRow_nil w1 w1.heap.size 3 1)
  go_wp2_with fail
  refine (HW.out _).mono ?_
  rintro e w3 ⟨rfl, hb3⟩
  have HY3 := Lib.hid (keepB hb3 HY2.out)
  have HB3 := Lib.hid (bstep HB2.out hb3)
  have HO3 := Lib.hid (own_below HO2.out hb3)
  clear hb3 b0 b1
  have b0 := cells_of HY3.out 0
  have b1 := cells_of HY3.out 1
  simp only [List.getElem?_toArray, List.getElem?_cons_succ, List.getElem?_cons_zero] at b0 b1
  go_wp2_with fail
  refine (HLy.out _).mono ?_
  rintro e w4 ⟨vy, rfl, ho4, hb4⟩
  have HB4 := Lib.hid (bstep HB3.out hb4)
  have HO4 := Lib.hid (own_below HO3.out hb4)
  have HP4 := Lib.hid ho4
  clear hb4 ho4 b0 b1
  obtain ⟨aoy, capy, rfl, -, -, hay⟩ := own_shape2 HP4.out
  have HAY := Lib.hid hay
  clear hay
  go_wp2_with fail
  go_loopw [7] (fun i wr => ∃ k : Nat, k ≤ 0 ∧ k ≤ M ∧ i = .int .i64 k ∧ Hid (([] : List Bool).take k = (Y : List Bool).take k) ∧ Hid (wr.ownsRow w1.heap.size 3 1 (.slice none 0 0) 0 (iv [])) ∧ Hid (wr.ownsRow w3.heap.size 3 1 (.slice aoy M capy) M (iv Y)) ∧ Hid (Below w.heap.size w wr)) (fun i _ => 0 - (intOf i).toNat)
  case atStart => exact ⟨0, by omega, by omega, rfl, Lib.hid rfl, HO4, HP4, HB4⟩
  case round =>
    obtain ⟨k, hk1, hk2, rfl, HE, HO, HP, HB⟩ := hrel
    obtain rfl : k = 0 := by omega
    by_cases hq : 0 < M
    all_goals
      try have hq1 : (0 : Int) < (M : Int) := by omega
      try have hq2 : ¬ (0 : Int) < (M : Int) := by omega
      have hend := cmpL_end HE.out (by rw [HN.out, HM.out]; omega)
      rw [HN.out, HM.out] at hend
      have HF1 := Lib.hid (fun h : 0 < M => show Ending.returned (Value.int .i64 (cmpL [] Y)) = .returned (.int .i64 (-1)) by rw [hend, if_pos h])
      have HF2 := Lib.hid (fun h : M < 0 => show Ending.returned (Value.int .i64 (cmpL [] Y)) = .returned (.int .i64 1) by rw [hend, if_neg (by omega), if_pos h])
      have HF3 := Lib.hid (fun h : 0 = M => show Ending.returned (Value.int .i64 (cmpL [] Y)) = .returned (.int .i64 0) by rw [hend, if_neg (by omega), if_neg (by omega)])
      clear hend
      go_wp2_with fail
      all_goals (try (exfalso; omega))
      all_goals
        go_ret
        first
          | exact ⟨(HF1.out (by omega)).symm, HB.out⟩
          | exact ⟨(HF2.out (by omega)).symm, HB.out⟩
          | exact ⟨(HF3.out (by omega)).symm, HB.out⟩
set_option maxRecDepth 100000 in
set_option maxHeartbeats 4000000 in
theorem rCmp_ii (s : ByteArray) (n : Int) (hs : s.size ≤ maxLen) (hn : i64ok n) (hi : validB s n = false) (t : ByteArray) (m : Int) (ht : t.size ≤ maxLen) (hm : i64ok m) (hj : validB t m = false) (w : World) :
    Calls Try.prog 33 #[.agg #[.string s, .int .i64 n], .agg #[.string t, .int .i64 m]] w fun e w' => e = .returned (.int .i64 (cmpL [] [])) ∧ Below w.heap.size w w' := by
  have hV := fun W => rValid_any s n hs hn.1 hn.2 W
  rw [hi] at hV
  have hW := fun W => rValid_any t m ht hm.1 hm.2 W
  rw [hj] at hW
  have HV := Lib.hid hV
  have HW := Lib.hid hW
  have HN := Lib.hid (show ([] : List Bool).length = 0 from rfl)
  have HM := Lib.hid (show ([] : List Bool).length = 0 from rfl)
  clear hV hW hi hj
  go_enter Try.func33, Try.ntmps33
  go_wp2_with fail
  refine (HV.out _).mono ?_
  rintro e w1 ⟨rfl, hb1⟩
  have HA1 := Lib.hid (keepB hb1 (new2_0 _ _ _))
  have HY1 := Lib.hid (keepB hb1 (new2_1 _ _ _))
  have HB1 := Lib.hid (bstep (balloc (below_alloc _ _) _) hb1)
  have a0 := cells_of HA1.out 0
  have a1 := cells_of HA1.out 1
  have b0 := cells_of HY1.out 0
  have b1 := cells_of HY1.out 1
  simp only [List.getElem?_toArray, List.getElem?_cons_succ, List.getElem?_cons_zero] at a0 a1 b0 b1
  clear hb1
  have HY2 := HY1
  have HB2 := HB1
  have HO2 := Lib.hid (World.ownsRow_nil w1 w1.heap.size 3 1)
  go_wp2_with fail
  refine (HW.out _).mono ?_
  rintro e w3 ⟨rfl, hb3⟩
  have HY3 := Lib.hid (keepB hb3 HY2.out)
  have HB3 := Lib.hid (bstep HB2.out hb3)
  have HO3 := Lib.hid (own_below HO2.out hb3)
  clear hb3 b0 b1
  have b0 := cells_of HY3.out 0
  have b1 := cells_of HY3.out 1
  simp only [List.getElem?_toArray, List.getElem?_cons_succ, List.getElem?_cons_zero] at b0 b1
  have HB4 := HB3
  have HO4 := HO3
  have HP4 := Lib.hid (World.ownsRow_nil w3 w3.heap.size 3 1)
  go_wp2_with fail
  go_loopw [7] (fun i wr => ∃ k : Nat, k ≤ 0 ∧ k ≤ 0 ∧ i = .int .i64 k ∧ Hid (([] : List Bool).take k = ([] : List Bool).take k) ∧ Hid (wr.ownsRow w1.heap.size 3 1 (.slice none 0 0) 0 (iv [])) ∧ Hid (wr.ownsRow w3.heap.size 3 1 (.slice none 0 0) 0 (iv [])) ∧ Hid (Below w.heap.size w wr)) (fun i _ => 0 - (intOf i).toNat)
  case atStart => exact ⟨0, by omega, by omega, rfl, Lib.hid rfl, HO4, HP4, HB4⟩
  case round =>
    obtain ⟨k, hk1, hk2, rfl, HE, HO, HP, HB⟩ := hrel
    obtain rfl : k = 0 := by omega
    go_wp2_with fail
    all_goals (try (exfalso; omega))
    go_ret
    exact ⟨rfl, HB.out⟩
theorem rCmp_any (s : ByteArray) (n : Int) (t : ByteArray) (m : Int) (hs : s.size ≤ 4096) (ht : t.size ≤ 4096) (hn : i64ok n) (hm : i64ok m) (w : World) :
    Calls Try.prog 33 #[.agg #[.string s, .int .i64 n], .agg #[.string t, .int .i64 m]] w fun e w' => e = .returned (.int .i64 (cmpR s n t m)) ∧ Below w.heap.size w w' := by
  have hs' : s.size ≤ maxLen := by rw [maxLen_val]; omega
  have ht' : t.size ≤ maxLen := by rw [maxLen_val]; omega
  unfold cmpR bitsOf
  have hpk : ∀ (s : ByteArray) (n : Int), s.size ≤ 4096 → validB s n = true → ∃ (X : List Bool) (N : Nat), bitsB s 0 n.toNat = X ∧ X.length = N ∧ N ≤ 32768 ∧ s = packS X ∧ n = (N : Int) := by
    intro s n hs hv
    obtain ⟨h0, hl⟩ := valid_size hv
    obtain ⟨N, rfl⟩ := Int.eq_ofNat_of_zero_le h0
    refine ⟨_, N, rfl, by simp, by unfold lenB at hl; omega, (valid_pack hv).symm, rfl⟩
  cases hv : validB s n
  · cases hw : validB t m
    · exact rCmp_ii s n hs' hn hv t m ht' hm hw w
    · obtain ⟨Y, M, e1, e2, e3, rfl, rfl⟩ := hpk t m ht hw
      rw [if_neg (by decide), if_pos rfl, e1]
      exact rCmp_iv s n hs' hn hv Y M e2 e3 w
  · obtain ⟨X, N, e1, e2, e3, rfl, rfl⟩ := hpk s n hs hv
    rw [if_pos rfl, e1]
    cases hw : validB t m
    · rw [if_neg (by decide)]
      exact rCmp_vi X N e2 e3 t m ht' hm hw w
    · obtain ⟨Y, M, e1', e2', e3', rfl, rfl⟩ := hpk t m ht hw
      rw [if_pos rfl, e1']
      exact rCmp_vv X N e2 e3 Y M e2' e3' w
end Go.Proofs.Ytdgjbejbbmnhbaa
