/-
  The law BitsOrder: the walk.
-/
import Derived.Test.YtdgjbejbbmnhbaaBitsText
import Derived.Test.YtdgjbejbbmnhbaaBitsLawCmp
import Derived.Lib.Strings
namespace Go.Proofs.Ytdgjbejbbmnhbaa
open Go.RowKit Go.Proofs.BitsM
theorem new3_0' (w : World) (o p q : Obj) : (((w.alloc o).alloc p).alloc q).heap[w.heap.size]? = some o := heap_after (heap_after (new1_0 _ _) _) _
theorem cmpL_small (X Y : List Bool) : -1 ≤ cmpL X Y ∧ cmpL X Y ≤ 1 := by
  induction X generalizing Y with
  | nil => cases Y <;> simp [cmpL]
  | cons x a ih =>
    cases Y with
    | nil => simp [cmpL]
    | cons y b =>
      rw [cmpL]
      split
      · exact ih b
      · cases x <;> cases y <;> simp
theorem Cmp_p (X Y : List Bool) (N M : Nat) (hN : X.length = N) (hM : Y.length = M) (hX : N ≤ 40000) (hY : M ≤ 40000) (w : World) :
    Calls Try.prog 32 #[.agg #[.string (packS X), .int .i64 N], .agg #[.string (packS Y), .int .i64 M]] w fun e w' => e = .returned (.int .i64 (cmpL X Y)) ∧ Below w.heap.size w w' := by
  rcases Nat.lt_or_ge M N with h | h
  · exact Cmp_vvM X Y N M hN hM hX hY h w
  · exact Cmp_vvN X Y N M hN hM hX hY h w
set_option maxRecDepth 100000 in
set_option maxHeartbeats 4000000 in
theorem order_main (X Y Z : List Bool) (N M K : Nat) (hN : X.length = N) (hM : Y.length = M) (hK : Z.length = K) (hX : N ≤ 4800) (hY : M ≤ 4800) (hZ : K ≤ 4800) (w : World) :
    Calls Try.prog 11 #[.agg #[.string (packS X), .int .i64 N], .agg #[.string (packS Y), .int .i64 M], .agg #[.string (packS Z), .int .i64 K]] w (Yes w) := by
  have l1 : ¬ (600 : Int) < ((packS X).size : Int) := by rw [packS_size]; omega
  have l2 : ¬ (600 : Int) < ((packS Y).size : Int) := by rw [packS_size]; omega
  have l3 : ¬ (600 : Int) < ((packS Z).size : Int) := by rw [packS_size]; omega
  have hv1 := fun W => rValid_any (packS X) N (by rw [packS_size, maxLen_val]; omega) (by omega) (by omega) W
  have hv2 := fun W => rValid_any (packS Y) M (by rw [packS_size, maxLen_val]; omega) (by omega) (by omega) W
  have hv3 := fun W => rValid_any (packS Z) K (by rw [packS_size, maxLen_val]; omega) (by omega) (by omega) W
  rw [← hN, pack_valid, hN] at hv1
  rw [← hM, pack_valid, hM] at hv2
  rw [← hK, pack_valid, hK] at hv3
  have ht1 := fun W => text_any X N hN (by omega) W
  have ht2 := fun W => text_any Y M hM (by omega) W
  have ht3 := fun W => text_any Z K hK (by omega) W
  have hc1 := fun W => Cmp_p X Y N M hN hM (by omega) (by omega) W
  have hc2 := fun W => Cmp_p Y X M N hM hN (by omega) (by omega) W
  have hc3 := fun W => Cmp_p Y Z M K hM hK (by omega) (by omega) W
  have hc4 := fun W => Cmp_p X Z N K hN hK (by omega) (by omega) W
  have x1 := textB_less X Y
  have x2 := textB_less Y Z
  have x3 := textB_inj X Y
  rw [← cmpL_zero X Y] at x3
  rw [← txS_data X, ← txS_data Y, ← ByteArray.toList_eq, ← ByteArray.toList_eq] at x1 x3
  rw [← txS_data Y, ← txS_data Z, ← ByteArray.toList_eq, ← ByteArray.toList_eq] at x2
  rw [cmpL_swap Y X] at hc2
  have ht := cmpL_trans X Y Z
  have s1 := cmpL_small X Y
  have s2 := cmpL_small Y Z
  have s3 := cmpL_small X Z
  generalize cmpL X Y = c1 at *
  generalize cmpL Y Z = c2 at *
  generalize cmpL X Z = c3 at *
  generalize txS X = y1 at *
  generalize txS Y = y2 at *
  generalize txS Z = y3 at *
  generalize packS X = s at *
  generalize packS Y = t at *
  generalize packS Z = u at *
  have x3b : (y1.toList == y2.toList) = decide (c1 = 0) := by
    rw [Bool.eq_iff_iff]; simpa using x3
  obtain ⟨s1a, s1b⟩ := s1
  obtain ⟨s2a, s2b⟩ := s2
  obtain ⟨s3a, s3b⟩ := s3
  have HV1 := Lib.hid hv1
  have HV2 := Lib.hid hv2
  have HV3 := Lib.hid hv3
  have HT1 := Lib.hid ht1
  have HT2 := Lib.hid ht2
  have HT3 := Lib.hid ht3
  have HC1 := Lib.hid hc1
  have HC2 := Lib.hid hc2
  have HC3 := Lib.hid hc3
  have HC4 := Lib.hid hc4
  have HT := Lib.hid ht
  have X1 := Lib.hid x1
  have X2 := Lib.hid x2
  have X3 := Lib.hid x3b
  clear hv1 hv2 hv3 ht1 ht2 ht3 hc1 hc2 hc3 hc4 ht x1 x2 x3 x3b hN hM hK
  go_enter Try.func11, Try.ntmps11
  go_wp2_with fail
  refine (HV1.out _).mono ?_
  rintro e w1 ⟨rfl, hb1⟩
  have HX1 := Lib.hid (keepB hb1 (new3_0' _ _ _ _))
  have HY1 := Lib.hid (keepB hb1 (new3_1 _ _ _ _))
  have HZ1 := Lib.hid (keepB hb1 (new3_2 _ _ _ _))
  have HB1 := Lib.hid (bstep (balloc (balloc (below_alloc _ _) _) _) hb1)
  have b0 := cells_of HY1.out 0
  have b1 := cells_of HY1.out 1
  simp only [List.getElem?_toArray, List.getElem?_cons_succ, List.getElem?_cons_zero] at b0 b1
  clear hb1
  go_wp2_with fail
  refine (HV2.out _).mono ?_
  rintro e w2 ⟨rfl, hb2⟩
  have HX2 := Lib.hid (keepB hb2 HX1.out)
  have HY2 := Lib.hid (keepB hb2 HY1.out)
  have HZ2 := Lib.hid (keepB hb2 HZ1.out)
  have HB2 := Lib.hid (bstep HB1.out hb2)
  clear hb2 b0 b1
  have b0 := cells_of HZ2.out 0
  have b1 := cells_of HZ2.out 1
  simp only [List.getElem?_toArray, List.getElem?_cons_succ, List.getElem?_cons_zero] at b0 b1
  go_wp2_with fail
  refine (HV3.out _).mono ?_
  rintro e w3 ⟨rfl, hb3⟩
  have HX3 := Lib.hid (keepB hb3 HX2.out)
  have HY3 := Lib.hid (keepB hb3 HY2.out)
  have HZ3 := Lib.hid (keepB hb3 HZ2.out)
  have HB3 := Lib.hid (bstep HB2.out hb3)
  clear hb3 b0 b1
  have a0 := cells_of HX3.out 0
  have a1 := cells_of HX3.out 1
  have b0 := cells_of HY3.out 0
  have b1 := cells_of HY3.out 1
  have c0 := cells_of HZ3.out 0
  have c1' := cells_of HZ3.out 1
  simp only [List.getElem?_toArray, List.getElem?_cons_succ, List.getElem?_cons_zero] at a0 a1 b0 b1 c0 c1'
  go_wp2_with fail
  go_region_held3 (fun w' => w'.cell? ⟨w.heap.size, 0, none⟩ = some (.string s) ∧ w'.cell? ⟨w.heap.size, 1, none⟩ = some (.int .i64 N) ∧ w'.cell? ⟨w.heap.size + 1, 0, none⟩ = some (.string t) ∧ w'.cell? ⟨w.heap.size + 1, 1, none⟩ = some (.int .i64 M) ∧ w'.cell? ⟨w.heap.size + 2, 0, none⟩ = some (.string u) ∧ w'.cell? ⟨w.heap.size + 2, 1, none⟩ = some (.int .i64 K))
    (first
      | (refine ⟨a0, a1, b0, b1, c0, c1'⟩)
      | (go_split_ands; refine ⟨?_, ?_, ?_, ?_, ?_, ?_⟩ <;> exact below_keep hb6 (by assumption))
      | (go_split_ands; refine ⟨?_, ?_, ?_, ?_, ?_, ?_⟩ <;> exact below_keep hb5 (by assumption))
      | (go_split_ands; refine ⟨?_, ?_, ?_, ?_, ?_, ?_⟩ <;> exact below_keep hb4 (by assumption)))
    (first
      | (go_at_call_of 34 s; refine (HT1.out _).mono ?_; rintro e w4 ⟨rfl, hb4⟩)
      | (go_at_call_of 34 t; refine (HT2.out _).mono ?_; rintro e w5 ⟨rfl, hb5⟩)
      | (go_at_call_of 34 u; refine (HT3.out _).mono ?_; rintro e w6 ⟨rfl, hb6⟩))
  have hb456 : Below w3.heap.size w3 w6 := (bstep (bstep ((Below.refl _ w3).drew.trans hb4) hb5) hb6)
  have HX6 := Lib.hid (keepB hb456 HX3.out)
  have HY6 := Lib.hid (keepB hb456 HY3.out)
  have HZ6 := Lib.hid (keepB hb456 HZ3.out)
  have HB6 := Lib.hid (bstep HB3.out hb456)
  clear a0 a1 b0 b1 c0 c1' hb4 hb5 hb6 hb456
  have a0 := cells_of HX6.out 0
  have a1 := cells_of HX6.out 1
  have b0 := cells_of HY6.out 0
  have b1 := cells_of HY6.out 1
  have c0 := cells_of HZ6.out 0
  have c1' := cells_of HZ6.out 1
  simp only [List.getElem?_toArray, List.getElem?_cons_succ, List.getElem?_cons_zero] at a0 a1 b0 b1 c0 c1'
  go_wp2_with fail
  go_region_held3 (fun w' => w'.cell? ⟨w.heap.size, 0, none⟩ = some (.string s) ∧ w'.cell? ⟨w.heap.size, 1, none⟩ = some (.int .i64 N) ∧ w'.cell? ⟨w.heap.size + 1, 0, none⟩ = some (.string t) ∧ w'.cell? ⟨w.heap.size + 1, 1, none⟩ = some (.int .i64 M) ∧ w'.cell? ⟨w.heap.size + 2, 0, none⟩ = some (.string u) ∧ w'.cell? ⟨w.heap.size + 2, 1, none⟩ = some (.int .i64 K))
    (first
      | (refine ⟨a0, a1, b0, b1, c0, c1'⟩)
      | (go_split_ands; refine ⟨?_, ?_, ?_, ?_, ?_, ?_⟩ <;> exact below_keep hb10 (by assumption))
      | (go_split_ands; refine ⟨?_, ?_, ?_, ?_, ?_, ?_⟩ <;> exact below_keep hb9 (by assumption))
      | (go_split_ands; refine ⟨?_, ?_, ?_, ?_, ?_, ?_⟩ <;> exact below_keep hb8 (by assumption))
      | (go_split_ands; refine ⟨?_, ?_, ?_, ?_, ?_, ?_⟩ <;> exact below_keep hb7 (by assumption)))
    (first
      | (go_at_call 32; ((with_reducible refine (HC1.out _).mono ?_); rintro e w7 ⟨rfl, hb7⟩))
      | (go_at_call 32; ((with_reducible refine (HC2.out _).mono ?_); rintro e w8 ⟨rfl, hb8⟩))
      | (go_at_call 32; ((with_reducible refine (HC3.out _).mono ?_); rintro e w9 ⟨rfl, hb9⟩))
      | (go_at_call 32; ((with_reducible refine (HC4.out _).mono ?_); rintro e w10 ⟨rfl, hb10⟩)))
  have HB10 := Lib.hid (bstep HB6.out (bstep (bstep (bstep ((Below.refl _ w6).drew.trans hb7) hb8) hb9) hb10))
  clear a0 a1 b0 b1 c0 c1' hb7 hb8 hb9 hb10
  have x1 := X1.out
  have x2 := X2.out
  have x3 := X3.out
  have x0 : (-c1 != c1) = (c1 != 0) := by
    rw [Bool.eq_iff_iff]; simp; omega
  by_cases k1 : c1 ≤ 0
  · by_cases k2 : c2 ≤ 0
    · have k3 : ¬ 0 < c3 := by have := HT.out k1 k2; omega
      go_wp2_with fail
      refine (awake_any _).mono ?_
      rintro e w11 ⟨rfl, hb⟩
      go_wp2_with fail
      go_ret
      exact ⟨rfl, bstep HB10.out hb⟩
    · go_wp2_with fail
      refine (awake_any _).mono ?_
      rintro e w11 ⟨rfl, hb⟩
      go_wp2_with fail
      go_ret
      exact ⟨rfl, bstep HB10.out hb⟩
  · go_wp2_with fail
    refine (awake_any _).mono ?_
    rintro e w11 ⟨rfl, hb⟩
    go_wp2_with fail
    go_ret
    exact ⟨rfl, bstep HB10.out hb⟩
set_option maxRecDepth 100000 in
set_option maxHeartbeats 4000000 in
theorem lawOrder (s : ByteArray) (n : Int) (t : ByteArray) (m : Int) (u : ByteArray) (l : Int) (hs : s.size ≤ maxLen) (hn : i64ok n) (ht : t.size ≤ maxLen) (hm : i64ok m) (hu : u.size ≤ maxLen) (hl : i64ok l) (w : World) :
    Calls Try.prog 11 #[.agg #[.string s, .int .i64 n], .agg #[.string t, .int .i64 m], .agg #[.string u, .int .i64 l]] w (Yes w) := by
  have hv1 := fun W => rValid_any s n hs hn.1 hn.2 W
  have hv2 := fun W => rValid_any t m ht hm.1 hm.2 W
  have hv3 := fun W => rValid_any u l hu hl.1 hl.2 W
  rw [maxLen_val] at hs ht hu
  have hpk : ∀ (s : ByteArray) (n : Int), s.size ≤ 600 → validB s n = true → ∃ (X : List Bool) (N : Nat), X.length = N ∧ N ≤ 4800 ∧ s = packS X ∧ n = (N : Int) := by
    intro s n hs hv
    obtain ⟨h0, hl⟩ := valid_size hv
    obtain ⟨N, rfl⟩ := Int.eq_ofNat_of_zero_le h0
    exact ⟨bitsB s 0 N, N, by simp, by unfold lenB at hl; omega, (valid_pack hv).symm, rfl⟩
  have HPK := Lib.hid hpk
  clear hpk
  by_cases h1 : 600 < s.size
  · have l1 : (600 : Int) < (s.size : Int) := by omega
    clear hv1 hv2 hv3
    go_enter Try.func11, Try.ntmps11
    go_wp2_with fail
    refine (awake_any _).mono ?_
    rintro e w9 ⟨rfl, hb⟩
    go_wp2_with fail
    go_ret
    exact ⟨rfl, bstep (balloc (balloc (below_alloc _ _) _) _) hb⟩
  · have l1 : ¬ (600 : Int) < (s.size : Int) := by omega
    by_cases h2 : 600 < t.size
    · have l2 : (600 : Int) < (t.size : Int) := by omega
      clear hv1 hv2 hv3
      go_enter Try.func11, Try.ntmps11
      go_wp2_with fail
      refine (awake_any _).mono ?_
      rintro e w9 ⟨rfl, hb⟩
      go_wp2_with fail
      go_ret
      exact ⟨rfl, bstep (balloc (balloc (below_alloc _ _) _) _) hb⟩
    · have l2 : ¬ (600 : Int) < (t.size : Int) := by omega
      by_cases h3 : 600 < u.size
      · have l3 : (600 : Int) < (u.size : Int) := by omega
        clear hv1 hv2 hv3
        go_enter Try.func11, Try.ntmps11
        go_wp2_with fail
        refine (awake_any _).mono ?_
        rintro e w9 ⟨rfl, hb⟩
        go_wp2_with fail
        go_ret
        exact ⟨rfl, bstep (balloc (balloc (below_alloc _ _) _) _) hb⟩
      · have l3 : ¬ (600 : Int) < (u.size : Int) := by omega
        cases e1 : validB s n
        · rw [e1] at hv1
          have HV1 := Lib.hid hv1
          clear hv1 hv2 hv3 e1
          go_enter Try.func11, Try.ntmps11
          go_wp2_with fail
          refine (HV1.out _).mono ?_
          rintro e w1 ⟨rfl, hb1⟩
          have HB1 := Lib.hid (bstep (balloc (balloc (below_alloc _ _) _) _) hb1)
          clear hb1
          go_wp2_with fail
          refine (awake_any _).mono ?_
          rintro e w9 ⟨rfl, hb⟩
          go_wp2_with fail
          go_ret
          exact ⟨rfl, bstep HB1.out hb⟩
        · cases e2 : validB t m
          · rw [e1] at hv1
            rw [e2] at hv2
            have HV1 := Lib.hid hv1
            have HV2 := Lib.hid hv2
            clear hv1 hv2 hv3 e1 e2
            go_enter Try.func11, Try.ntmps11
            go_wp2_with fail
            refine (HV1.out _).mono ?_
            rintro e w1 ⟨rfl, hb1⟩
            have HY1 := Lib.hid (keepB hb1 (new3_1 _ _ _ _))
            have HB1 := Lib.hid (bstep (balloc (balloc (below_alloc _ _) _) _) hb1)
            have b0 := cells_of HY1.out 0
            have b1 := cells_of HY1.out 1
            simp only [List.getElem?_toArray, List.getElem?_cons_succ, List.getElem?_cons_zero] at b0 b1
            clear hb1
            go_wp2_with fail
            refine (HV2.out _).mono ?_
            rintro e w2 ⟨rfl, hb2⟩
            have HB2 := Lib.hid (bstep HB1.out hb2)
            clear hb2
            go_wp2_with fail
            refine (awake_any _).mono ?_
            rintro e w9 ⟨rfl, hb⟩
            go_wp2_with fail
            go_ret
            exact ⟨rfl, bstep HB2.out hb⟩
          · cases e3 : validB u l
            · rw [e1] at hv1
              rw [e2] at hv2
              rw [e3] at hv3
              have HV1 := Lib.hid hv1
              have HV2 := Lib.hid hv2
              have HV3 := Lib.hid hv3
              clear hv1 hv2 hv3 e1 e2 e3
              go_enter Try.func11, Try.ntmps11
              go_wp2_with fail
              refine (HV1.out _).mono ?_
              rintro e w1 ⟨rfl, hb1⟩
              have HY1 := Lib.hid (keepB hb1 (new3_1 _ _ _ _))
              have HZ1 := Lib.hid (keepB hb1 (new3_2 _ _ _ _))
              have HB1 := Lib.hid (bstep (balloc (balloc (below_alloc _ _) _) _) hb1)
              have b0 := cells_of HY1.out 0
              have b1 := cells_of HY1.out 1
              simp only [List.getElem?_toArray, List.getElem?_cons_succ, List.getElem?_cons_zero] at b0 b1
              clear hb1
              go_wp2_with fail
              refine (HV2.out _).mono ?_
              rintro e w2 ⟨rfl, hb2⟩
              have HZ2 := Lib.hid (keepB hb2 HZ1.out)
              have HB2 := Lib.hid (bstep HB1.out hb2)
              clear hb2 b0 b1
              have b0 := cells_of HZ2.out 0
              have b1 := cells_of HZ2.out 1
              simp only [List.getElem?_toArray, List.getElem?_cons_succ, List.getElem?_cons_zero] at b0 b1
              go_wp2_with fail
              refine (HV3.out _).mono ?_
              rintro e w3 ⟨rfl, hb3⟩
              have HB3 := Lib.hid (bstep HB2.out hb3)
              clear hb3
              go_wp2_with fail
              refine (awake_any _).mono ?_
              rintro e w9 ⟨rfl, hb⟩
              go_wp2_with fail
              go_ret
              exact ⟨rfl, bstep HB3.out hb⟩
            · obtain ⟨X, N, q1, q2, rfl, rfl⟩ := HPK.out s n (by omega) e1
              obtain ⟨Y, M, q1', q2', rfl, rfl⟩ := HPK.out t m (by omega) e2
              obtain ⟨Z, K, q1'', q2'', rfl, rfl⟩ := HPK.out u l (by omega) e3
              exact order_main X Y Z N M K q1 q1' q1'' q2 q2' q2'' w
end Go.Proofs.Ytdgjbejbbmnhbaa
