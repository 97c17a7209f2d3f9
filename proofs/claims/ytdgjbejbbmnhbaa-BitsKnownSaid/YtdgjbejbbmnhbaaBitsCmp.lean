/-
  Walks: strings.Compare, Cmp.
-/
import Derived.Test.YtdgjbejbbmnhbaaBitsMath7
import Derived.Test.YtdgjbejbbmnhbaaBitsGet
import Derived.Laws.Externs
namespace Go.Proofs.Ytdgjbejbbmnhbaa
open Go.RowKit Go.Proofs.BitsM
theorem cmpstr_any (a b : ByteArray) (w : World) :
    Calls Try.prog 46 #[.string a, .string b] w fun e w' => e = .returned (.int .i64 (Go.Lib.compareBytes a.data.toList b.data.toList)) ∧ w = w' := by
  go_enter Try.func46, Try.ntmps46
  go_wp2
  rw [run_callFunc_extern Try.func47 (by kernel_rfl) (by kernel_rfl) (by kernel_rfl) (e := Extern.BytealgCompare.compare) (by kernel_rfl), Go.Lib.run_compareString]
  simp only [Result.andThen]
  rw [Oper.upon_value]
  go_wp2
  go_ret
  exact ⟨rfl, rfl⟩
theorem compare_any (a b : ByteArray) (w : World) :
    Calls Try.prog 44 #[.string a, .string b] w fun e w' => e = .returned (.int .i64 (Go.Lib.compareBytes a.data.toList b.data.toList)) ∧ w = w' := by
  go_enter Try.func44, Try.ntmps44
  go_wp2_with (go_at_call 46; refine (cmpstr_any _ _ _).mono ?_; rintro e w' ⟨rfl, rfl⟩)
  go_ret
  exact ⟨rfl, rfl⟩
theorem quiet_here {P : Program} {f : FuncId} {args : Array Value} {w : World} {n : Nat} {v : Value} (h : ∀ W, Calls P f args W fun e w' => e = .returned v ∧ W = w') :
    Calls P f args (w.drewN n) fun e w'' => e = .returned v ∧ ∃ m, w'' = w.drewN m := (h _).mono fun _ _ ⟨he, hm⟩ => ⟨he, n, hm.symm⟩
theorem below_drewN {B : Nat} {a w : World} (h : Below B a w) (n : Nat) : Below B a (w.drewN n) := ⟨h.os, h.tape, h.output, h.size, h.block⟩
theorem extract_packS (X : List Bool) (q : Nat) : ((packS X).extract 0 q).data.toList = ((packN X).take q).map UInt8.ofNat := by
  have hd : (packS X).data.toList = ((packN X).map fun b : Nat => (b : Int)).map fun n => UInt8.ofNat n.toNat := strOfNums_data _
  have e : ((packS X).extract 0 q).data.toList = (packS X).data.toList.take q := by
    rw [ByteArray.data_extract, Array.toList_extract]
    simp [List.extract_eq_take_drop]
  rw [e, hd, List.map_map, ← List.map_take]
  apply List.map_congr_left
  intro a _
  simp
theorem compare_pack (X Y : List Bool) (q : Nat) : Go.Lib.compareBytes ((packS X).extract 0 q).data.toList ((packS Y).extract 0 q).data.toList = cmpN ((packN X).take q) ((packN Y).take q) := by
  rw [extract_packS, extract_packS]
  exact compareBytes_cmpN _ _ (fun x hx => packN_lt X x (List.mem_of_mem_take hx)) (fun x hx => packN_lt Y x (List.mem_of_mem_take hx))
theorem bitN_pack (X : List Bool) (i : Nat) : bitN (packS X) i = (X.getD i false).toNat := by unfold bitN; rw [packS_bit]
theorem cmpN_small (a b : List Nat) : -1 ≤ cmpN a b ∧ cmpN a b ≤ 1 := by
  induction a generalizing b with
  | nil => cases b <;> simp [cmpN]
  | cons x a ih =>
    cases b with
    | nil => simp [cmpN]
    | cons y b => rw [cmpN]; split <;> (try split) <;> first | omega | exact ih b
set_option maxRecDepth 100000 in
set_option maxHeartbeats 4000000 in
theorem Cmp_vvN (X Y : List Bool) (N M : Nat) (hN : X.length = N) (hM : Y.length = M) (hX : N ≤ 40000) (hY : M ≤ 40000) (hK : N ≤ M) (w : World) :
    Calls Try.prog 32 #[.agg #[.string (packS X), .int .i64 N], .agg #[.string (packS Y), .int .i64 M]] w fun e w' => e = .returned (.int .i64 (cmpL X Y)) ∧ Below w.heap.size w w' := by
  have hV := fun W => Valid_any (packS X) N (by rw [packS_size, maxLen_val]; omega) (by omega) (by omega) W
  have hW := fun W => Valid_any (packS Y) M (by rw [packS_size, maxLen_val]; omega) (by omega) (by omega) W
  rw [← hN, pack_valid, hN] at hV
  rw [← hM, pack_valid, hM] at hW
  have HS := Lib.hid (packS_size X)
  have HT := Lib.hid (packS_size Y)
  have HV := Lib.hid hV
  have HW := Lib.hid hW
  have HN := Lib.hid hN
  have HM := Lib.hid hM
  have HC := Lib.hid (compare_pack X Y)
  have HSb := Lib.hid (bitN_pack X)
  have HTb := Lib.hid (bitN_pack Y)
  clear hV hW hN hM
  generalize packS X = s at *
  generalize packS Y = t at *
  go_enter Try.func32, Try.ntmps32
  go_wp2_with fail
  refine (HV.out _).mono ?_
  rintro e w1 ⟨rfl, hb1⟩
  have HA1 := Lib.hid (keepB hb1 (new2_0 _ _ _))
  have HY1 := Lib.hid (keepB hb1 (new2_1 _ _ _))
  have HB1 := Lib.hid (bstep (balloc (below_alloc _ _) _) hb1)
  have a0 := cells_of HY1.out 0
  have a1 := cells_of HY1.out 1
  simp only [List.getElem?_toArray, List.getElem?_cons_succ, List.getElem?_cons_zero] at a0 a1
  clear hb1
  go_wp2_with fail
  refine (HW.out _).mono ?_
  rintro e w2 ⟨rfl, hb2⟩
  have HA2 := Lib.hid (keepB hb2 HA1.out)
  have HY2 := Lib.hid (keepB hb2 HY1.out)
  have HB2 := Lib.hid (bstep HB1.out hb2)
  clear a0 a1 hb2
  have a0 := cells_of HA2.out 0
  have a1 := cells_of HA2.out 1
  have b0 := cells_of HY2.out 0
  have b1 := cells_of HY2.out 1
  simp only [List.getElem?_toArray, List.getElem?_cons_succ, List.getElem?_cons_zero] at a0 a1 b0 b1
  have hq1 : N / 8 ≤ s.size := by rw [HS.out, HN.out]; omega
  have hq2 : N / 8 ≤ t.size := by rw [HT.out, HM.out]; omega
  have hs8 : s.size = (N + 7) / 8 := by rw [HS.out, HN.out]
  have ht8 : t.size = (M + 7) / 8 := by rw [HT.out, HM.out]
  have hC := HC.out (N / 8)
  have hcb := cmp_bytes (N / 8) X Y (by rw [HN.out]; omega) (by rw [HM.out]; omega)
  have hcs := cmpN_small ((packN X).take (N / 8)) ((packN Y).take (N / 8))
  generalize cmpN ((packN X).take (N / 8)) ((packN Y).take (N / 8)) = c at hC hcb hcs
  have hcmp := fun W => compare_any (s.extract 0 (N / 8)) (t.extract 0 (N / 8)) W
  rw [hC] at hcmp
  have HCmp := Lib.hid hcmp
  clear hcmp hC
  have HS8 := Lib.hid hs8
  have HT8 := Lib.hid ht8
  clear hs8 ht8
  rcases hcb with ⟨hc0, htk⟩ | ⟨hc0, hce⟩
  · subst hc0
    have HTK := Lib.hid htk
    clear htk
    go_wp2_with fail
    go_quiet ((go_at_call 44; exact quiet_here (fun W => HCmp.out W)))
    go_wp2_with fail
    go_loopw [7] (fun i wr => ∃ k : Nat, 8 * (N / 8) ≤ k ∧ k ≤ N ∧ i = .int .i64 k ∧ Hid (X.take k = Y.take k) ∧ Hid (wr.heap[w.heap.size]? = some (.cells #[.string s, .int .i64 N] 25 (0, 0))) ∧ Hid (wr.heap[w.heap.size + 1]? = some (.cells #[.string t, .int .i64 M] 25 (0, 0))) ∧ Hid (Below w.heap.size w wr)) (fun i _ => N - (intOf i).toNat)
    case atStart => exact ⟨8 * (N / 8), by omega, by omega, by go_num, HTK, HA2, HY2, Lib.hid (below_drewN HB2.out _)⟩
    case round =>
      obtain ⟨k, hk0, hk, rfl, HE, HA, HY, HB⟩ := hrel
      clear a0 a1 b0 b1
      have a0 := cells_of HA.out 0
      have a1 := cells_of HA.out 1
      have b0 := cells_of HY.out 0
      have b1 := cells_of HY.out 1
      simp only [List.getElem?_toArray, List.getElem?_cons_succ, List.getElem?_cons_zero] at a0 a1 b0 b1
      by_cases hlt : k < N
      · have hlt' : (k : Int) < (N : Int) := by omega
        have hx := fun W => at_any s k (by have := HS8.out; rw [maxLen_val]; omega) (by omega) (by have := HS8.out; omega) W
        have hy := fun W => at_any t k (by have := HT8.out; rw [maxLen_val]; omega) (by omega) (by have := HT8.out; omega) W
        have hx1 := bitN_le s k
        have hy1 := bitN_le t k
        have ex := HSb.out k
        have ey := HTb.out k
        generalize bitN s k = x at hx hx1 ex
        generalize bitN t k = y at hy hy1 ey
        have HXa := Lib.hid hx
        have HYa := Lib.hid hy
        clear hx hy
        by_cases hb : X.getD k false = Y.getD k false
        · have HEQ := Lib.hid hb
          have hxy : x = y := by rw [ex, ey, hb]
          subst hxy
          clear ex ey hb
          go_wp2_with fail
          go_quiet ((first | (go_at_call_of 40 s; exact quiet_here (fun W => HXa.out W)) | (go_at_call_of 40 t; exact quiet_here (fun W => HYa.out W))))
          go_wp2_with fail
          go_roundw
          case rel => exact ⟨k + 1, by omega, by omega, by go_num, Lib.hid (take_step HE.out (by rw [HN.out]; omega) (by rw [HM.out]; omega) HEQ.out), HA, HY, Lib.hid (below_drewN HB.out _)⟩
          case measure => simp only [intOf]; omega
        · have HNE := Lib.hid hb
          have hd : ((x : Int) - (y : Int) != 0) = true := by
            rw [ex, ey, toNat_ne]; simpa using hb
          have HF := Lib.hid (show Ending.returned (Value.int .i64 (cmpL X Y)) = .returned (.int .i64 ((x : Int) - (y : Int))) by rw [cmpL_at HE.out (by rw [HN.out]; omega) (by rw [HM.out]; omega) HNE.out, ex, ey])
          clear ex ey hb
          go_wp2_with fail
          go_quiet ((first | (go_at_call_of 40 s; exact quiet_here (fun W => HXa.out W)) | (go_at_call_of 40 t; exact quiet_here (fun W => HYa.out W))))
          go_wp2_with fail
          go_ret
          exact ⟨HF.out.symm, below_drewN HB.out _⟩
      · obtain rfl : k = N := by omega
        have hlt' : ¬ (k : Int) < (k : Int) := by omega
        have hend := cmpL_end HE.out (by rw [HN.out, HM.out]; omega)
        rw [HN.out, HM.out] at hend
        have HF1 := Lib.hid (fun h : k < M => show Ending.returned (Value.int .i64 (cmpL X Y)) = .returned (.int .i64 (-1)) by rw [hend, if_pos h])
        have HF2 := Lib.hid (fun h : M < k => show Ending.returned (Value.int .i64 (cmpL X Y)) = .returned (.int .i64 1) by rw [hend, if_neg (by omega), if_pos h])
        have HF3 := Lib.hid (fun h : k = M => show Ending.returned (Value.int .i64 (cmpL X Y)) = .returned (.int .i64 0) by rw [hend, if_neg (by omega), if_neg (by omega)])
        clear hend
        go_wp2_with fail
        all_goals
          go_ret
          first
            | exact ⟨(HF1.out (by omega)).symm, HB.out⟩
            | exact ⟨(HF2.out (by omega)).symm, HB.out⟩
            | exact ⟨(HF3.out (by omega)).symm, HB.out⟩
  · have hcn : (c != 0) = true := by simpa using hc0
    have HCE := Lib.hid (show Ending.returned (Value.int .i64 (cmpL X Y)) = .returned (.int .i64 c) by rw [hce])
    clear hc0 hce
    go_wp2_with fail
    go_quiet ((go_at_call 44; exact quiet_here (fun W => HCmp.out W)))
    go_wp2_with fail
    go_ret
    exact ⟨HCE.out.symm, below_drewN HB2.out _⟩
set_option maxRecDepth 100000 in
set_option maxHeartbeats 4000000 in
theorem Cmp_vvM (X Y : List Bool) (N M : Nat) (hN : X.length = N) (hM : Y.length = M) (hX : N ≤ 40000) (hY : M ≤ 40000) (hK : M < N) (w : World) :
    Calls Try.prog 32 #[.agg #[.string (packS X), .int .i64 N], .agg #[.string (packS Y), .int .i64 M]] w fun e w' => e = .returned (.int .i64 (cmpL X Y)) ∧ Below w.heap.size w w' := by
  have hV := fun W => Valid_any (packS X) N (by rw [packS_size, maxLen_val]; omega) (by omega) (by omega) W
  have hW := fun W => Valid_any (packS Y) M (by rw [packS_size, maxLen_val]; omega) (by omega) (by omega) W
  rw [← hN, pack_valid, hN] at hV
  rw [← hM, pack_valid, hM] at hW
  have HS := Lib.hid (packS_size X)
  have HT := Lib.hid (packS_size Y)
  have HV := Lib.hid hV
  have HW := Lib.hid hW
  have HN := Lib.hid hN
  have HM := Lib.hid hM
  have HC := Lib.hid (compare_pack X Y)
  have HSb := Lib.hid (bitN_pack X)
  have HTb := Lib.hid (bitN_pack Y)
  clear hV hW hN hM
  generalize packS X = s at *
  generalize packS Y = t at *
  go_enter Try.func32, Try.ntmps32
  go_wp2_with fail
  refine (HV.out _).mono ?_
  rintro e w1 ⟨rfl, hb1⟩
  have HA1 := Lib.hid (keepB hb1 (new2_0 _ _ _))
  have HY1 := Lib.hid (keepB hb1 (new2_1 _ _ _))
  have HB1 := Lib.hid (bstep (balloc (below_alloc _ _) _) hb1)
  have a0 := cells_of HY1.out 0
  have a1 := cells_of HY1.out 1
  simp only [List.getElem?_toArray, List.getElem?_cons_succ, List.getElem?_cons_zero] at a0 a1
  clear hb1
  go_wp2_with fail
  refine (HW.out _).mono ?_
  rintro e w2 ⟨rfl, hb2⟩
  have HA2 := Lib.hid (keepB hb2 HA1.out)
  have HY2 := Lib.hid (keepB hb2 HY1.out)
  have HB2 := Lib.hid (bstep HB1.out hb2)
  clear a0 a1 hb2
  have a0 := cells_of HA2.out 0
  have a1 := cells_of HA2.out 1
  have b0 := cells_of HY2.out 0
  have b1 := cells_of HY2.out 1
  simp only [List.getElem?_toArray, List.getElem?_cons_succ, List.getElem?_cons_zero] at a0 a1 b0 b1
  have hq1 : M / 8 ≤ s.size := by rw [HS.out, HN.out]; omega
  have hq2 : M / 8 ≤ t.size := by rw [HT.out, HM.out]; omega
  have hs8 : s.size = (N + 7) / 8 := by rw [HS.out, HN.out]
  have ht8 : t.size = (M + 7) / 8 := by rw [HT.out, HM.out]
  have hC := HC.out (M / 8)
  have hcb := cmp_bytes (M / 8) X Y (by rw [HN.out]; omega) (by rw [HM.out]; omega)
  have hcs := cmpN_small ((packN X).take (M / 8)) ((packN Y).take (M / 8))
  generalize cmpN ((packN X).take (M / 8)) ((packN Y).take (M / 8)) = c at hC hcb hcs
  have hcmp := fun W => compare_any (s.extract 0 (M / 8)) (t.extract 0 (M / 8)) W
  rw [hC] at hcmp
  have HCmp := Lib.hid hcmp
  clear hcmp hC
  have HS8 := Lib.hid hs8
  have HT8 := Lib.hid ht8
  clear hs8 ht8
  rcases hcb with ⟨hc0, htk⟩ | ⟨hc0, hce⟩
  · subst hc0
    have HTK := Lib.hid htk
    clear htk
    go_wp2_with fail
    go_quiet ((go_at_call 44; exact quiet_here (fun W => HCmp.out W)))
    go_wp2_with fail
    go_loopw [7] (fun i wr => ∃ k : Nat, 8 * (M / 8) ≤ k ∧ k ≤ M ∧ i = .int .i64 k ∧ Hid (X.take k = Y.take k) ∧ Hid (wr.heap[w.heap.size]? = some (.cells #[.string s, .int .i64 N] 25 (0, 0))) ∧ Hid (wr.heap[w.heap.size + 1]? = some (.cells #[.string t, .int .i64 M] 25 (0, 0))) ∧ Hid (Below w.heap.size w wr)) (fun i _ => M - (intOf i).toNat)
    case atStart => exact ⟨8 * (M / 8), by omega, by omega, by go_num, HTK, HA2, HY2, Lib.hid (below_drewN HB2.out _)⟩
    case round =>
      obtain ⟨k, hk0, hk, rfl, HE, HA, HY, HB⟩ := hrel
      clear a0 a1 b0 b1
      have a0 := cells_of HA.out 0
      have a1 := cells_of HA.out 1
      have b0 := cells_of HY.out 0
      have b1 := cells_of HY.out 1
      simp only [List.getElem?_toArray, List.getElem?_cons_succ, List.getElem?_cons_zero] at a0 a1 b0 b1
      by_cases hlt : k < M
      · have hlt' : (k : Int) < (M : Int) := by omega
        have hx := fun W => at_any s k (by have := HS8.out; rw [maxLen_val]; omega) (by omega) (by have := HS8.out; omega) W
        have hy := fun W => at_any t k (by have := HT8.out; rw [maxLen_val]; omega) (by omega) (by have := HT8.out; omega) W
        have hx1 := bitN_le s k
        have hy1 := bitN_le t k
        have ex := HSb.out k
        have ey := HTb.out k
        generalize bitN s k = x at hx hx1 ex
        generalize bitN t k = y at hy hy1 ey
        have HXa := Lib.hid hx
        have HYa := Lib.hid hy
        clear hx hy
        by_cases hb : X.getD k false = Y.getD k false
        · have HEQ := Lib.hid hb
          have hxy : x = y := by rw [ex, ey, hb]
          subst hxy
          clear ex ey hb
          go_wp2_with fail
          go_quiet ((first | (go_at_call_of 40 s; exact quiet_here (fun W => HXa.out W)) | (go_at_call_of 40 t; exact quiet_here (fun W => HYa.out W))))
          go_wp2_with fail
          go_roundw
          case rel => exact ⟨k + 1, by omega, by omega, by go_num, Lib.hid (take_step HE.out (by rw [HN.out]; omega) (by rw [HM.out]; omega) HEQ.out), HA, HY, Lib.hid (below_drewN HB.out _)⟩
          case measure => simp only [intOf]; omega
        · have HNE := Lib.hid hb
          have hd : ((x : Int) - (y : Int) != 0) = true := by
            rw [ex, ey, toNat_ne]; simpa using hb
          have HF := Lib.hid (show Ending.returned (Value.int .i64 (cmpL X Y)) = .returned (.int .i64 ((x : Int) - (y : Int))) by rw [cmpL_at HE.out (by rw [HN.out]; omega) (by rw [HM.out]; omega) HNE.out, ex, ey])
          clear ex ey hb
          go_wp2_with fail
          go_quiet ((first | (go_at_call_of 40 s; exact quiet_here (fun W => HXa.out W)) | (go_at_call_of 40 t; exact quiet_here (fun W => HYa.out W))))
          go_wp2_with fail
          go_ret
          exact ⟨HF.out.symm, below_drewN HB.out _⟩
      · obtain rfl : k = M := by omega
        have hlt' : ¬ (k : Int) < (k : Int) := by omega
        have hend := cmpL_end HE.out (by rw [HN.out, HM.out]; omega)
        rw [HN.out, HM.out] at hend
        have HF1 := Lib.hid (fun h : N < k => show Ending.returned (Value.int .i64 (cmpL X Y)) = .returned (.int .i64 (-1)) by rw [hend, if_pos h])
        have HF2 := Lib.hid (fun h : k < N => show Ending.returned (Value.int .i64 (cmpL X Y)) = .returned (.int .i64 1) by rw [hend, if_neg (by omega), if_pos h])
        have HF3 := Lib.hid (fun h : N = k => show Ending.returned (Value.int .i64 (cmpL X Y)) = .returned (.int .i64 0) by rw [hend, if_neg (by omega), if_neg (by omega)])
        clear hend
        go_wp2_with fail
        all_goals
          go_ret
          first
            | exact ⟨(HF1.out (by omega)).symm, HB.out⟩
            | exact ⟨(HF2.out (by omega)).symm, HB.out⟩
            | exact ⟨(HF3.out (by omega)).symm, HB.out⟩
  · have hcn : (c != 0) = true := by simpa using hc0
    have HCE := Lib.hid (show Ending.returned (Value.int .i64 (cmpL X Y)) = .returned (.int .i64 c) by rw [hce])
    clear hc0 hce
    go_wp2_with fail
    go_quiet ((go_at_call 44; exact quiet_here (fun W => HCmp.out W)))
    go_wp2_with fail
    go_ret
    exact ⟨HCE.out.symm, below_drewN HB2.out _⟩
end Go.Proofs.Ytdgjbejbbmnhbaa
