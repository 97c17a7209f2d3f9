/-
  Walks: the law of validity.
-/
import Derived.Test.YtmcnhggpmlhgeaaGreatDoorLwD
import Derived.Test.YtmcnhggpmlhgeaaGreatDoorRfA
import Derived.Test.YtmcnhggpmlhgeaaGreatDoorRfH
import Derived.Test.YtmcnhggpmlhgeaaGreatDoorRfI
import Derived.Test.YtmcnhggpmlhgeaaGreatDoorFix
namespace Go.Proofs.YtmcnhggpmlhgeaaGreatDoor
open Go.RowKit
theorem own_one (w : World) (t : Tok) : OwnK w.heap.size (.slice (some ⟨w.heap.size, 0, none⟩) ([t] : List Tok).length 1) [t] (w.alloc (.cells #[.int .i64 t.k, .string (ba t.tx), .int .u64 (t.n : Int), .int .i64 t.pos] 36 (0, 0))) :=
  ⟨rfl, .inr ⟨w.heap.size, 1, _, rfl, Nat.le_refl _, heap_alloc_new w _, Nat.le_refl _, by unfold maxLen; omega, rfl, rfl⟩⟩
theorem sameL_more (t : Tok) (l : List Tok) : sameL (t :: l) l = false := sameL_len (by simp)
set_option maxRecDepth 100000 in
set_option maxHeartbeats 16000000 in
theorem LexValid_law (B : Nat) (t u : Tok) (l : List Tok) (v : Value) (w : World) (hr : RdW w B v l) (hB : B ≤ w.heap.size) (hl : ∀ t ∈ l, t.tx.length ≤ 9223372036854775807) (ht : t.tx.length ≤ 9223372036854775807) (hu : u.tx.length ≤ 9223372036854775807) (hTb : Tb w) :
    Calls Tryz.prog 5 #[.agg #[.int .i64 t.k, .string (ba t.tx), .int .u64 (t.n : Int), .int .i64 t.pos], .agg #[.int .i64 u.k, .string (ba u.tx), .int .u64 (u.n : Int), .int .i64 u.pos], v] w (Yes w) := by
  have hA0 := heap_after (heap_alloc_new w (.cells #[.int .i64 t.k, .string (ba t.tx), .int .u64 (t.n : Int), .int .i64 t.pos] 36 (0, 0))) (.cells #[.int .i64 u.k, .string (ba u.tx), .int .u64 (u.n : Int), .int .i64 u.pos] 36 (0, 0))
  have hB0 := heap_alloc_new (w.alloc (.cells #[.int .i64 t.k, .string (ba t.tx), .int .u64 (t.n : Int), .int .i64 t.pos] 36 (0, 0))) (.cells #[.int .i64 u.k, .string (ba u.tx), .int .u64 (u.n : Int), .int .i64 u.pos] 36 (0, 0))
  rw [World.size_alloc] at hB0
  have hW0 := balloc (below_alloc w (.cells #[.int .i64 t.k, .string (ba t.tx), .int .u64 (t.n : Int), .int .i64 t.pos] 36 (0, 0))) (.cells #[.int .i64 u.k, .string (ba u.tx), .int .u64 (u.n : Int), .int .i64 u.pos] 36 (0, 0))
  have HA0 := Lib.hid hA0
  have HB0 := Lib.hid hB0
  have HW0 := Lib.hid hW0
  have HTb := Lib.hid hTb
  have HSh := Lib.hid (shown_any _ (hTb.below hW0))
  have HR := Lib.hid hr
  have HGl := Lib.hid fun W (hb : Below w.heap.size w W) => great_any B l v 100000 (by decide) W (hr.below hb hB) hl
  have HGt := Lib.hid fun (W : World) => great_any (W.heap.size + 1) [t, u] (.slice (some ⟨W.heap.size, 0, none⟩) 2 2) 100000 (by decide) (W.alloc (.cells #[.int .i64 t.k, .string (ba t.tx), .int .u64 (t.n : Int), .int .i64 t.pos, .int .i64 u.k, .string (ba u.tx), .int .u64 (u.n : Int), .int .i64 u.pos] 36 (0, 0))) ⟨_, 2, rfl, Nat.le_refl _, by simp, fun _ => ⟨W.heap.size, 0, rfl, by omega, fun j x hj => by
    rw [cells_of (heap_alloc_new W (.cells #[.int .i64 t.k, .string (ba t.tx), .int .u64 (t.n : Int), .int .i64 t.pos, .int .i64 u.k, .string (ba u.tx), .int .u64 (u.n : Int), .int .i64 u.pos] 36 (0, 0))), Nat.zero_add, List.getElem?_toArray]
    exact hj⟩⟩ (fun x hx => by
      rcases List.mem_cons.1 hx with h | h
      · subst h; exact ht
      · rw [List.mem_singleton.1 h]; exact hu)
  have hwl := wgt_len l
  have hwt := wgt_mem (l := [t, u]) (t := t) (by simp)
  clear hA0 hB0 hW0 hTb hr hl ht hu
  by_cases hg1 : 100000 < wgt [t, u]
  · rw [decide_eq_true hg1] at HGt
    obtain ⟨ao, cap, rfl, -⟩ := HR.out
    go_enter Tryz.func5, Tryz.ntmps5
    go_upto_region 1 with (fail)
    generalize (w.alloc (.cells #[.int .i64 t.k, .string (ba t.tx), .int .u64 (t.n : Int), .int .i64 t.pos] 36 (0, 0))).alloc (.cells #[.int .i64 u.k, .string (ba u.tx), .int .u64 (u.n : Int), .int .i64 u.pos] 36 (0, 0)) = w0 at HA0 HB0 HW0 HSh ⊢
    go_wp2_with fail
    refine HSh.out.mono ?_
    rintro e w1 ⟨rfl, hb1⟩
    obtain ⟨c0, c1, c2, c3, -⟩ := four_cells ((hb1.block w.heap.size (lt_of_block HA0.out)).trans HA0.out)
    obtain ⟨d0, d1, d2, d3, -⟩ := four_cells ((hb1.block (w.heap.size + 1) (lt_of_block HB0.out)).trans HB0.out)
    have HW1 := Lib.hid (bstep HW0.out hb1)
    clear hb1
    go_wp2_with fail
    refine (HGt.out w1).mono ?_
    rintro e w2 ⟨rfl, rfl⟩
    clear c0 c1 c2 c3 d0 d1 d2 d3
    go_wp2_with fail
    go_ret
    exact ⟨rfl, balloc HW1.out _⟩
  · rw [decide_eq_false hg1] at HGt
    by_cases hg2 : 100000 < wgt l
    · rw [decide_eq_true hg2] at HGl
      obtain ⟨ao, cap, rfl, -⟩ := HR.out
      go_enter Tryz.func5, Tryz.ntmps5
      go_upto_region 1 with (fail)
      generalize (w.alloc (.cells #[.int .i64 t.k, .string (ba t.tx), .int .u64 (t.n : Int), .int .i64 t.pos] 36 (0, 0))).alloc (.cells #[.int .i64 u.k, .string (ba u.tx), .int .u64 (u.n : Int), .int .i64 u.pos] 36 (0, 0)) = w0 at HA0 HB0 HW0 HSh ⊢
      go_wp2_with fail
      refine HSh.out.mono ?_
      rintro e w1 ⟨rfl, hb1⟩
      obtain ⟨c0, c1, c2, c3, -⟩ := four_cells ((hb1.block w.heap.size (lt_of_block HA0.out)).trans HA0.out)
      obtain ⟨d0, d1, d2, d3, -⟩ := four_cells ((hb1.block (w.heap.size + 1) (lt_of_block HB0.out)).trans HB0.out)
      have HW1 := Lib.hid (bstep HW0.out hb1)
      clear hb1
      go_wp2_with fail
      refine (HGt.out w1).mono ?_
      rintro e w2 ⟨rfl, rfl⟩
      clear c0 c1 c2 c3 d0 d1 d2 d3
      go_wp2_with fail
      refine (HGl.out _ (balloc HW1.out _)).mono ?_
      rintro e w2 ⟨rfl, rfl⟩
      go_wp2_with fail
      go_ret
      exact ⟨rfl, balloc HW1.out _⟩
    · rw [decide_eq_false hg2] at HGl
      have htx : t.tx.length ≤ 1000000 := by omega
      have hll : l.length ≤ 100000 := by omega
      have HR := Lib.hid (HR.out.rdk (by omega))
      obtain ⟨ao, cap, e0, -⟩ := HR.out
      subst e0
      clear hg1 hg2 hwl hwt
      go_enter Tryz.func5, Tryz.ntmps5
      go_upto_region 1 with (fail)
      have hz0 : ((w.alloc (.cells #[.int .i64 t.k, .string (ba t.tx), .int .u64 (t.n : Int), .int .i64 t.pos] 36 (0, 0))).alloc (.cells #[.int .i64 u.k, .string (ba u.tx), .int .u64 (u.n : Int), .int .i64 u.pos] 36 (0, 0))).heap.size = w.heap.size + 1 + 1 := by rw [World.size_alloc, World.size_alloc]
      generalize (w.alloc (.cells #[.int .i64 t.k, .string (ba t.tx), .int .u64 (t.n : Int), .int .i64 t.pos] 36 (0, 0))).alloc (.cells #[.int .i64 u.k, .string (ba u.tx), .int .u64 (u.n : Int), .int .i64 u.pos] 36 (0, 0)) = w0 at HA0 HB0 HW0 HSh hz0 ⊢
      have HZ0 := Lib.hid hz0
      clear hz0
      go_wp2_with fail
      refine HSh.out.mono ?_
      rintro e w1 ⟨rfl, hb1⟩
      have HZ1 := Lib.hid hb1.size
      have HA1 := Lib.hid ((hb1.block w.heap.size (lt_of_block HA0.out)).trans HA0.out)
      have HB1 := Lib.hid ((hb1.block (w.heap.size + 1) (lt_of_block HB0.out)).trans HB0.out)
      have HW1 := Lib.hid (bstep HW0.out hb1)
      obtain ⟨c0, c1, c2, c3, -⟩ := four_cells HA1.out
      obtain ⟨d0, d1, d2, d3, -⟩ := four_cells HB1.out
      clear hb1 HSh HA0 HB0
      go_wp2_with fail
      refine (HGt.out w1).mono ?_
      rintro e w2 ⟨rfl, rfl⟩
      have HW2 := Lib.hid (balloc HW1.out (.cells #[.int .i64 t.k, .string (ba t.tx), .int .u64 (t.n : Int), .int .i64 t.pos, .int .i64 u.k, .string (ba u.tx), .int .u64 (u.n : Int), .int .i64 u.pos] 36 (0, 0)))
      have HA2 := Lib.hid (((below_alloc w1 (.cells #[.int .i64 t.k, .string (ba t.tx), .int .u64 (t.n : Int), .int .i64 t.pos, .int .i64 u.k, .string (ba u.tx), .int .u64 (u.n : Int), .int .i64 u.pos] 36 (0, 0))).block w.heap.size (lt_of_block HA1.out)).trans HA1.out)
      have HB2 := Lib.hid (((below_alloc w1 (.cells #[.int .i64 t.k, .string (ba t.tx), .int .u64 (t.n : Int), .int .i64 t.pos, .int .i64 u.k, .string (ba u.tx), .int .u64 (u.n : Int), .int .i64 u.pos] 36 (0, 0))).block (w.heap.size + 1) (lt_of_block HB1.out)).trans HB1.out)
      have HZ2 := Lib.hid (show w.heap.size + 2 ≤ (w1.alloc (.cells #[.int .i64 t.k, .string (ba t.tx), .int .u64 (t.n : Int), .int .i64 t.pos, .int .i64 u.k, .string (ba u.tx), .int .u64 (u.n : Int), .int .i64 u.pos] 36 (0, 0))).heap.size from by rw [World.size_alloc]; have := HZ0.out; have := HZ1.out; omega)
      clear c0 c1 c2 c3 d0 d1 d2 d3 HA1 HB1
      generalize w1.alloc (.cells #[.int .i64 t.k, .string (ba t.tx), .int .u64 (t.n : Int), .int .i64 t.pos, .int .i64 u.k, .string (ba u.tx), .int .u64 (u.n : Int), .int .i64 u.pos] 36 (0, 0)) = w2 at HW2 HA2 HB2 HZ2 ⊢
      go_wp2_with fail
      refine (HGl.out w2 HW2.out).mono ?_
      rintro e w3 ⟨rfl, rfl⟩
      clear HGl HGt HZ0 HZ1
      -- the two rows
      have hbt := below_alloc w3 (.cells #[.int .i64 t.k, .string (ba t.tx), .int .u64 (t.n : Int), .int .i64 t.pos] 36 (0, 0))
      have hz2 := HZ2.out
      have hBl : B ≤ w3.heap.size := by omega
      have hR2 := HR.out.below HW2.out hB
      obtain ⟨g5, cap5, w5, hrun5, hown5, hb5, -⟩ := append_run _ w3.heap.size w3.heap.size 1 [t] l B _ (own_one w3 t) (hR2.below hbt hBl) (by simp only [List.length_singleton]; omega) hbt.size
      have hb5' := hbt.trans hb5
      have hbu := below_alloc w5 (.cells #[.int .i64 u.k, .string (ba u.tx), .int .u64 (u.n : Int), .int .i64 u.pos] 36 (0, 0))
      have hb6' := hb5'.trans (hbu.mono hb5'.size)
      obtain ⟨g7, cap7, w7, hrun7, hown7, hb7, -⟩ := append_run _ w5.heap.size w5.heap.size 1 [u] l B _ (own_one w5 u) (hR2.below hb6' hBl) (by simp only [List.length_singleton]; omega) hbu.size
      have hb7' := hb6'.trans (hb7.mono hb5'.size)
      have hm5 := ((hown5.rdk (by rw [List.length_append, List.length_singleton]; omega)).below (hbu.trans hb7) (Nat.le_refl _)).more (hbu.trans hb7).size
      have hm7 := hown7.rdk (by rw [List.length_append, List.length_singleton]; omega)
      have HA5 := Lib.hid ((hb5'.block w.heap.size (by omega)).trans HA2.out)
      have HB5 := Lib.hid ((hb5'.block (w.heap.size + 1) (by omega)).trans HB2.out)
      have HA7 := Lib.hid ((hb7'.block w.heap.size (by omega)).trans HA2.out)
      have HW7 := Lib.hid (HW2.out.trans (hb7'.mono (by omega)))
      have HM := Lib.hid hm5
      have HN := Lib.hid hm7
      have HL7 := Lib.hid (hR2.below hb7' hBl)
      have hz7 := hb7'.size
      simp only [List.length_singleton] at hrun5 hrun7 HM HN
      have HRun5 := Lib.hid hrun5
      have HRun7 := Lib.hid hrun7
      clear hrun5 hrun7 hown5 hown7 hb5 hb7 hbt hbu hb5' hb6' hb7' hm5 hm7 hR2
      obtain ⟨c0, c1, c2, c3, -⟩ := four_cells HA2.out
      go_upto_region 6 with (at_builtin; refine wpList_append_tok rfl _ _ rfl rfl _ _ _ _ rfl rfl HRun5.out ?_)
      clear c0 c1 c2 c3
      obtain ⟨d0, d1, d2, d3, -⟩ := four_cells HB5.out
      go_upto_region 7 with (at_builtin; refine wpList_append_tok rfl _ _ rfl rfl _ _ _ _ rfl rfl HRun7.out ?_)
      clear d0 d1 d2 d3
      have HV := Lib.hid fun W (hb : Below w7.heap.size w7 W) => LexValid_any t W htx fun W2 hb2 => ((HTb.out.below (HW7.out.trans (hb.mono (by omega)))).below hb2).sp
      have HVr := Lib.hid fun W => Valid_r t W htx
      have HRs := Lib.hid fun W (hb : Below w7.heap.size w7 W) => Reserved_p t.tx (by omega) W fun W2 hb2 => ((HTb.out.below (HW7.out.trans (hb.mono (by omega)))).below hb2).sp
      have HRr := Lib.hid fun W => Reserved_r t.tx W
      have HS1 := Lib.hid fun W (hb : Below w7.heap.size w7 W) => Same_any w7.heap.size _ _ _ _ W (HM.out.below hb (Nat.le_refl _)) (HN.out.below hb (Nat.le_refl _)) hb.size
      have HS1r := Lib.hid fun W (hb : Below w7.heap.size w7 W) => Same_r w7.heap.size _ _ _ _ W (HM.out.below hb (Nat.le_refl _)) (HN.out.below hb (Nat.le_refl _)) hb.size
      have HS2 := Lib.hid fun W (hb : Below w7.heap.size w7 W) => (show Calls Tryz.prog 22 #[.slice (some ⟨g5, 0, none⟩) (1 + l.length) cap5, .slice ao l.length cap] W fun e w' => e = .returned (.bool false) ∧ Below W.heap.size W w' from by
        have h := Same_any w7.heap.size _ _ _ _ W (HM.out.below hb (Nat.le_refl _)) ((HL7.out.more (by omega)).below hb (Nat.le_refl _)) hb.size
        rw [show ([t] ++ l) = t :: l from rfl, sameL_more] at h
        exact h)
      have HS3 := Lib.hid fun W (hb : Below w7.heap.size w7 W) => (show Calls Tryz.prog 22 #[.slice ao l.length cap, .slice ao l.length cap] W fun e w' => e = .returned (.bool true) ∧ Below W.heap.size W w' from by
        have h := Same_any w7.heap.size _ _ _ _ W ((HL7.out.more (by omega)).below hb (Nat.le_refl _)) ((HL7.out.more (by omega)).below hb (Nat.le_refl _)) hb.size
        rw [sameL_refl] at h
        exact h)
      generalize sameL ([t] ++ l) ([u] ++ l) = SB at HS1 HS1r
      generalize validTk t = VB at HV HVr
      generalize resB t.tx = RB at HRs HRr
      refine' wp_region_fix (by kernel_rfl) 34 [some 27, some 28, some 29, some 30, some 31, some 32, some 33, some 34, some 35, some 36, some 37, some 38, some 39, some 40, some 41, some 42, some 43, some 44, some 45, some 46, some 47, some 48, some 49, some 50, some 51, some 52, some 53, some 54, some 55, some 56, some 57, some 58, some 59, some 60] [_, _, _, _, _, _, _, _, _, _, _, _, _, _, _, _, _, _, _, _, _, _, _, _, _, _, _, _, _, _, _, _, _, _] [] (fun (_ : List Bool) (W : World) => Below w7.heap.size w7 W) (by kernel_rfl) (by decide) (by kernel_rfl) (by decide) (by rfl) (by decide) ((Below.refl _ _).drew) ?_ ?_
      rotate_left 34
      · refine all_cons 0 ?_ (all_cons 1 ?_ (all_cons 2 ?_ (all_cons 3 ?_ (all_cons 4 ?_ (all_cons 5 ?_ (all_cons 6 ?_ (all_cons 7 ?_ (all_cons 8 ?_ (all_cons 9 ?_ (all_cons 10 ?_ (all_cons 11 ?_ (all_cons 12 ?_ (all_cons 13 ?_ (all_cons 14 ?_ (all_cons 15 ?_ (all_cons 16 ?_ (all_cons 17 ?_ (all_cons 18 ?_ (all_cons 19 ?_ (all_cons 20 ?_ (all_cons 21 ?_ (all_cons 22 ?_ (all_cons 23 ?_ (all_cons 24 ?_ (all_cons 25 ?_ (all_cons 26 ?_ (all_cons 27 ?_ (all_cons 28 ?_ (all_cons 29 ?_ (all_cons 30 ?_ (all_cons 31 ?_ (all_cons 32 ?_ (all_cons 33 ?_ (all_done 34))))))))))))))))))))))))))))))))))
        · intro o ho fs W HFi HAf HJ A HA HZ K' HK
          have z3 : A.tmps[3]? = some _ := HZ.out 3 (by decide)
          clear HAf HA HZ
          obtain ⟨c0, c1, c2, c3, -⟩ := four_cells ((HJ.out.block w.heap.size (by omega)).trans HA7.out)
          cases ho
          go_simp
          exact HK.out _ HJ.out
        · intro o ho fs W HFi HAf HJ A HA HZ K' HK
          have f0 : fs 0 = true := by cases ho; exact HAf.out ⟨0, .data⟩ (by simp) rfl
          have s0 := HA.out 0 27 (by decide) f0 rfl
          simp only [List.getD_cons_zero] at s0
          clear HAf HA HZ
          cases ho
          go_simp
          refine (HV.out W HJ.out).mono ?_
          rintro e w3 ⟨rfl, hb3⟩
          exact HK.out _ (bstep HJ.out hb3)
        · intro o ho fs W HFi HAf HJ A HA HZ K' HK
          have z3 : A.tmps[3]? = some _ := HZ.out 3 (by decide)
          clear HAf HA HZ
          obtain ⟨c0, c1, c2, c3, -⟩ := four_cells ((HJ.out.block w.heap.size (by omega)).trans HA7.out)
          cases ho
          go_simp
          exact HK.out _ HJ.out
        · intro o ho fs W HFi HAf HJ A HA HZ K' HK
          have f2 : fs 2 = true := by cases ho; exact HAf.out ⟨2, .data⟩ (by simp) rfl
          have s2 := HA.out 2 29 (by decide) f2 rfl
          simp only [List.getD_cons_succ, List.getD_cons_zero] at s2
          clear HAf HA HZ
          cases ho
          go_simp
          refine (HVr.out W).mono ?_
          rintro e w3 ⟨rfl, hb3⟩
          exact HK.out _ (bstep HJ.out hb3)
        · intro o ho fs W HFi HAf HJ A HA HZ K' HK
          have f1 : fs 1 = true := by cases ho; exact HAf.out ⟨1, .data⟩ (by simp) rfl
          have s1 := HA.out 1 28 (by decide) f1 rfl
          simp only [List.getD_cons_succ, List.getD_cons_zero] at s1
          have f3 : fs 3 = true := by cases ho; exact HAf.out ⟨3, .data⟩ (by simp) rfl
          have s3 := HA.out 3 30 (by decide) f3 rfl
          simp only [List.getD_cons_succ, List.getD_cons_zero] at s3
          clear HAf HA HZ f1 f3
          cases ho
          go_simp
          exact HK.out _ HJ.out
        · intro o ho fs W HFi HAf HJ A HA HZ K' HK
          have f4 : fs 4 = true := by cases ho; exact HAf.out ⟨4, .data⟩ (by simp) rfl
          have s4 := HA.out 4 31 (by decide) f4 rfl
          simp only [List.getD_cons_succ, List.getD_cons_zero] at s4
          clear HAf HA HZ f4
          cases ho
          go_simp
          exact HK.out _ HJ.out
        · intro o ho fs W HFi HAf HJ A HA HZ K' HK
          have z3 : A.tmps[3]? = some _ := HZ.out 3 (by decide)
          have f5 : fs 5 = true := by cases ho; exact HAf.out ⟨5, .guard⟩ (by simp) rfl
          have s5 := HA.out 5 32 (by decide) f5 rfl
          simp only [List.getD_cons_succ, List.getD_cons_zero] at s5
          clear HAf HA HZ f5
          cases ho
          go_simp
          exact HK.out _ HJ.out
        · intro o ho fs W HFi HAf HJ A HA HZ K' HK
          have f6 : fs 6 = true := by cases ho; exact HAf.out ⟨6, .data⟩ (by simp) rfl
          have s6 := HA.out 6 33 (by decide) f6 rfl
          simp only [List.getD_cons_succ, List.getD_cons_zero] at s6
          have f5 : fs 5 = true := by cases ho; exact HAf.out ⟨5, .guard⟩ (by simp) rfl
          have s5 := HA.out 5 32 (by decide) f5 rfl
          simp only [List.getD_cons_succ, List.getD_cons_zero] at s5
          clear HAf HA HZ f6 f5
          obtain ⟨c0, c1, c2, c3, -⟩ := four_cells ((HJ.out.block w.heap.size (by omega)).trans HA7.out)
          cases ho
          go_simp
          exact HK.out _ HJ.out
        · intro o ho fs W HFi HAf HJ A HA HZ K' HK
          have f7 : fs 7 = true := by cases ho; exact HAf.out ⟨7, .data⟩ (by simp) rfl
          have s7 := HA.out 7 34 (by decide) f7 rfl
          simp only [List.getD_cons_succ, List.getD_cons_zero] at s7
          have f5 : fs 5 = true := by cases ho; exact HAf.out ⟨5, .chain⟩ (by simp) rfl
          have s5 := HA.out 5 32 (by decide) f5 rfl
          simp only [List.getD_cons_succ, List.getD_cons_zero] at s5
          clear HAf HA HZ
          cases ho
          go_simp
          refine (HRs.out W HJ.out).mono ?_
          rintro e w3 ⟨rfl, hb3⟩
          exact HK.out _ (bstep HJ.out hb3)
        · intro o ho fs W HFi HAf HJ A HA HZ K' HK
          have z3 : A.tmps[3]? = some _ := HZ.out 3 (by decide)
          have f5 : fs 5 = true := by cases ho; exact HAf.out ⟨5, .guard⟩ (by simp) rfl
          have s5 := HA.out 5 32 (by decide) f5 rfl
          simp only [List.getD_cons_succ, List.getD_cons_zero] at s5
          clear HAf HA HZ f5
          cases ho
          go_simp
          exact HK.out _ HJ.out
        · intro o ho fs W HFi HAf HJ A HA HZ K' HK
          have f9 : fs 9 = true := by cases ho; exact HAf.out ⟨9, .data⟩ (by simp) rfl
          have s9 := HA.out 9 36 (by decide) f9 rfl
          simp only [List.getD_cons_succ, List.getD_cons_zero] at s9
          have f5 : fs 5 = true := by cases ho; exact HAf.out ⟨5, .guard⟩ (by simp) rfl
          have s5 := HA.out 5 32 (by decide) f5 rfl
          simp only [List.getD_cons_succ, List.getD_cons_zero] at s5
          clear HAf HA HZ f9 f5
          obtain ⟨c0, c1, c2, c3, -⟩ := four_cells ((HJ.out.block w.heap.size (by omega)).trans HA7.out)
          cases ho
          go_simp
          exact HK.out _ HJ.out
        · intro o ho fs W HFi HAf HJ A HA HZ K' HK
          have f10 : fs 10 = true := by cases ho; exact HAf.out ⟨10, .data⟩ (by simp) rfl
          have s10 := HA.out 10 37 (by decide) f10 rfl
          simp only [List.getD_cons_succ, List.getD_cons_zero] at s10
          have f5 : fs 5 = true := by cases ho; exact HAf.out ⟨5, .guard⟩ (by simp) rfl
          have s5 := HA.out 5 32 (by decide) f5 rfl
          simp only [List.getD_cons_succ, List.getD_cons_zero] at s5
          clear HAf HA HZ
          cases ho
          go_simp
          refine (HRr.out W).mono ?_
          rintro e w3 ⟨rfl, hb3⟩
          exact HK.out _ (bstep HJ.out hb3)
        · intro o ho fs W HFi HAf HJ A HA HZ K' HK
          have f8 : fs 8 = true := by cases ho; exact HAf.out ⟨8, .data⟩ (by simp) rfl
          have s8 := HA.out 8 35 (by decide) f8 rfl
          simp only [List.getD_cons_succ, List.getD_cons_zero] at s8
          have f11 : fs 11 = true := by cases ho; exact HAf.out ⟨11, .data⟩ (by simp) rfl
          have s11 := HA.out 11 38 (by decide) f11 rfl
          simp only [List.getD_cons_succ, List.getD_cons_zero] at s11
          have f5 : fs 5 = true := by cases ho; exact HAf.out ⟨5, .guard⟩ (by simp) rfl
          have s5 := HA.out 5 32 (by decide) f5 rfl
          simp only [List.getD_cons_succ, List.getD_cons_zero] at s5
          clear HAf HA HZ f8 f11 f5
          cases ho
          go_simp
          exact HK.out _ HJ.out
        · intro o ho fs W HFi HAf HJ A HA HZ K' HK
          have f5 : fs 5 = true := by cases ho; exact HAf.out ⟨5, .data⟩ (by simp) rfl
          have s5 := HA.out 5 32 (by decide) f5 rfl
          simp only [List.getD_cons_succ, List.getD_cons_zero] at s5
          have f12 : fs 12 = true := by cases ho; exact HAf.out ⟨12, .data⟩ (by simp) rfl
          have s12 := HA.out 12 39 (by decide) f12 rfl
          simp only [List.getD_cons_succ, List.getD_cons_zero] at s12
          clear HAf HA HZ f5 f12
          cases ho
          go_simp
          exact HK.out _ HJ.out
        · intro o ho fs W HFi HAf HJ A HA HZ K' HK
          have f13 : fs 13 = true := by cases ho; exact HAf.out ⟨13, .data⟩ (by simp) rfl
          have s13 := HA.out 13 40 (by decide) f13 rfl
          simp only [List.getD_cons_succ, List.getD_cons_zero] at s13
          clear HAf HA HZ f13
          cases ho
          go_simp
          exact HK.out _ HJ.out
        · intro o ho fs W HFi HAf HJ A HA HZ K' HK
          have z7 : A.tmps[7]? = some _ := HZ.out 7 (by decide)
          have f14 : fs 14 = true := by cases ho; exact HAf.out ⟨14, .guard⟩ (by simp) rfl
          have s14 := HA.out 14 41 (by decide) f14 rfl
          simp only [List.getD_cons_succ, List.getD_cons_zero] at s14
          clear HAf HA HZ f14
          cases ho
          go_simp
          exact HK.out _ HJ.out
        · intro o ho fs W HFi HAf HJ A HA HZ K' HK
          have z8 : A.tmps[8]? = some _ := HZ.out 8 (by decide)
          have f14 : fs 14 = true := by cases ho; exact HAf.out ⟨14, .guard⟩ (by simp) rfl
          have s14 := HA.out 14 41 (by decide) f14 rfl
          simp only [List.getD_cons_succ, List.getD_cons_zero] at s14
          clear HAf HA HZ f14
          cases ho
          go_simp
          exact HK.out _ HJ.out
        · intro o ho fs W HFi HAf HJ A HA HZ K' HK
          have f15 : fs 15 = true := by cases ho; exact HAf.out ⟨15, .data⟩ (by simp) rfl
          have s15 := HA.out 15 42 (by decide) f15 rfl
          simp only [List.getD_cons_succ, List.getD_cons_zero] at s15
          have f16 : fs 16 = true := by cases ho; exact HAf.out ⟨16, .data⟩ (by simp) rfl
          have s16 := HA.out 16 43 (by decide) f16 rfl
          simp only [List.getD_cons_succ, List.getD_cons_zero] at s16
          have f14 : fs 14 = true := by cases ho; exact HAf.out ⟨14, .chain⟩ (by simp) rfl
          have s14 := HA.out 14 41 (by decide) f14 rfl
          simp only [List.getD_cons_succ, List.getD_cons_zero] at s14
          clear HAf HA HZ
          cases ho
          go_simp
          refine (HS1.out W HJ.out).mono ?_
          rintro e w3 ⟨rfl, hb3⟩
          exact HK.out _ (bstep HJ.out hb3)
        · intro o ho fs W HFi HAf HJ A HA HZ K' HK
          have z7 : A.tmps[7]? = some _ := HZ.out 7 (by decide)
          have f14 : fs 14 = true := by cases ho; exact HAf.out ⟨14, .guard⟩ (by simp) rfl
          have s14 := HA.out 14 41 (by decide) f14 rfl
          simp only [List.getD_cons_succ, List.getD_cons_zero] at s14
          clear HAf HA HZ f14
          cases ho
          go_simp
          exact HK.out _ HJ.out
        · intro o ho fs W HFi HAf HJ A HA HZ K' HK
          have z8 : A.tmps[8]? = some _ := HZ.out 8 (by decide)
          have f14 : fs 14 = true := by cases ho; exact HAf.out ⟨14, .guard⟩ (by simp) rfl
          have s14 := HA.out 14 41 (by decide) f14 rfl
          simp only [List.getD_cons_succ, List.getD_cons_zero] at s14
          clear HAf HA HZ f14
          cases ho
          go_simp
          exact HK.out _ HJ.out
        · intro o ho fs W HFi HAf HJ A HA HZ K' HK
          have f18 : fs 18 = true := by cases ho; exact HAf.out ⟨18, .data⟩ (by simp) rfl
          have s18 := HA.out 18 45 (by decide) f18 rfl
          simp only [List.getD_cons_succ, List.getD_cons_zero] at s18
          have f19 : fs 19 = true := by cases ho; exact HAf.out ⟨19, .data⟩ (by simp) rfl
          have s19 := HA.out 19 46 (by decide) f19 rfl
          simp only [List.getD_cons_succ, List.getD_cons_zero] at s19
          have f14 : fs 14 = true := by cases ho; exact HAf.out ⟨14, .guard⟩ (by simp) rfl
          have s14 := HA.out 14 41 (by decide) f14 rfl
          simp only [List.getD_cons_succ, List.getD_cons_zero] at s14
          clear HAf HA HZ
          cases ho
          go_simp
          refine (HS1r.out W HJ.out).mono ?_
          rintro e w3 ⟨rfl, hb3⟩
          exact HK.out _ (bstep HJ.out hb3)
        · intro o ho fs W HFi HAf HJ A HA HZ K' HK
          have f17 : fs 17 = true := by cases ho; exact HAf.out ⟨17, .data⟩ (by simp) rfl
          have s17 := HA.out 17 44 (by decide) f17 rfl
          simp only [List.getD_cons_succ, List.getD_cons_zero] at s17
          have f20 : fs 20 = true := by cases ho; exact HAf.out ⟨20, .data⟩ (by simp) rfl
          have s20 := HA.out 20 47 (by decide) f20 rfl
          simp only [List.getD_cons_succ, List.getD_cons_zero] at s20
          have f14 : fs 14 = true := by cases ho; exact HAf.out ⟨14, .guard⟩ (by simp) rfl
          have s14 := HA.out 14 41 (by decide) f14 rfl
          simp only [List.getD_cons_succ, List.getD_cons_zero] at s14
          clear HAf HA HZ f17 f20 f14
          cases ho
          go_simp
          exact HK.out _ HJ.out
        · intro o ho fs W HFi HAf HJ A HA HZ K' HK
          have f14 : fs 14 = true := by cases ho; exact HAf.out ⟨14, .data⟩ (by simp) rfl
          have s14 := HA.out 14 41 (by decide) f14 rfl
          simp only [List.getD_cons_succ, List.getD_cons_zero] at s14
          have f21 : fs 21 = true := by cases ho; exact HAf.out ⟨21, .data⟩ (by simp) rfl
          have s21 := HA.out 21 48 (by decide) f21 rfl
          simp only [List.getD_cons_succ, List.getD_cons_zero] at s21
          clear HAf HA HZ f14 f21
          cases ho
          go_simp
          exact HK.out _ HJ.out
        · intro o ho fs W HFi HAf HJ A HA HZ K' HK
          have f22 : fs 22 = true := by cases ho; exact HAf.out ⟨22, .data⟩ (by simp) rfl
          have s22 := HA.out 22 49 (by decide) f22 rfl
          simp only [List.getD_cons_succ, List.getD_cons_zero] at s22
          clear HAf HA HZ f22
          cases ho
          go_simp
          exact HK.out _ HJ.out
        · intro o ho fs W HFi HAf HJ A HA HZ K' HK
          have z7 : A.tmps[7]? = some _ := HZ.out 7 (by decide)
          have f23 : fs 23 = true := by cases ho; exact HAf.out ⟨23, .guard⟩ (by simp) rfl
          have s23 := HA.out 23 50 (by decide) f23 rfl
          simp only [List.getD_cons_succ, List.getD_cons_zero] at s23
          clear HAf HA HZ f23
          cases ho
          go_simp
          exact HK.out _ HJ.out
        · intro o ho fs W HFi HAf HJ A HA HZ K' HK
          have z2 : A.tmps[2]? = some _ := HZ.out 2 (by decide)
          have f23 : fs 23 = true := by cases ho; exact HAf.out ⟨23, .guard⟩ (by simp) rfl
          have s23 := HA.out 23 50 (by decide) f23 rfl
          simp only [List.getD_cons_succ, List.getD_cons_zero] at s23
          clear HAf HA HZ f23
          cases ho
          go_simp
          exact HK.out _ HJ.out
        · intro o ho fs W HFi HAf HJ A HA HZ K' HK
          have f24 : fs 24 = true := by cases ho; exact HAf.out ⟨24, .data⟩ (by simp) rfl
          have s24 := HA.out 24 51 (by decide) f24 rfl
          simp only [List.getD_cons_succ, List.getD_cons_zero] at s24
          have f25 : fs 25 = true := by cases ho; exact HAf.out ⟨25, .data⟩ (by simp) rfl
          have s25 := HA.out 25 52 (by decide) f25 rfl
          simp only [List.getD_cons_succ, List.getD_cons_zero] at s25
          have f23 : fs 23 = true := by cases ho; exact HAf.out ⟨23, .chain⟩ (by simp) rfl
          have s23 := HA.out 23 50 (by decide) f23 rfl
          simp only [List.getD_cons_succ, List.getD_cons_zero] at s23
          clear HAf HA HZ
          cases ho
          go_simp
          refine (HS2.out W HJ.out).mono ?_
          rintro e w3 ⟨rfl, hb3⟩
          exact HK.out _ (bstep HJ.out hb3)
        · intro o ho fs W HFi HAf HJ A HA HZ K' HK
          have f26 : fs 26 = true := by cases ho; exact HAf.out ⟨26, .data⟩ (by simp) rfl
          have s26 := HA.out 26 53 (by decide) f26 rfl
          simp only [List.getD_cons_succ, List.getD_cons_zero] at s26
          have f23 : fs 23 = true := by cases ho; exact HAf.out ⟨23, .guard⟩ (by simp) rfl
          have s23 := HA.out 23 50 (by decide) f23 rfl
          simp only [List.getD_cons_succ, List.getD_cons_zero] at s23
          clear HAf HA HZ f26 f23
          cases ho
          go_simp
          exact HK.out _ HJ.out
        · intro o ho fs W HFi HAf HJ A HA HZ K' HK
          have f23 : fs 23 = true := by cases ho; exact HAf.out ⟨23, .data⟩ (by simp) rfl
          have s23 := HA.out 23 50 (by decide) f23 rfl
          simp only [List.getD_cons_succ, List.getD_cons_zero] at s23
          have f27 : fs 27 = true := by cases ho; exact HAf.out ⟨27, .data⟩ (by simp) rfl
          have s27 := HA.out 27 54 (by decide) f27 rfl
          simp only [List.getD_cons_succ, List.getD_cons_zero] at s27
          clear HAf HA HZ f23 f27
          cases ho
          go_simp
          exact HK.out _ HJ.out
        · intro o ho fs W HFi HAf HJ A HA HZ K' HK
          have f28 : fs 28 = true := by cases ho; exact HAf.out ⟨28, .data⟩ (by simp) rfl
          have s28 := HA.out 28 55 (by decide) f28 rfl
          simp only [List.getD_cons_succ, List.getD_cons_zero] at s28
          clear HAf HA HZ f28
          cases ho
          go_simp
          exact HK.out _ HJ.out
        · intro o ho fs W HFi HAf HJ A HA HZ K' HK
          have z2 : A.tmps[2]? = some _ := HZ.out 2 (by decide)
          have f29 : fs 29 = true := by cases ho; exact HAf.out ⟨29, .guard⟩ (by simp) rfl
          have s29 := HA.out 29 56 (by decide) f29 rfl
          simp only [List.getD_cons_succ, List.getD_cons_zero] at s29
          clear HAf HA HZ f29
          cases ho
          go_simp
          exact HK.out _ HJ.out
        · intro o ho fs W HFi HAf HJ A HA HZ K' HK
          have z2 : A.tmps[2]? = some _ := HZ.out 2 (by decide)
          have f29 : fs 29 = true := by cases ho; exact HAf.out ⟨29, .guard⟩ (by simp) rfl
          have s29 := HA.out 29 56 (by decide) f29 rfl
          simp only [List.getD_cons_succ, List.getD_cons_zero] at s29
          clear HAf HA HZ f29
          cases ho
          go_simp
          exact HK.out _ HJ.out
        · intro o ho fs W HFi HAf HJ A HA HZ K' HK
          have f30 : fs 30 = true := by cases ho; exact HAf.out ⟨30, .data⟩ (by simp) rfl
          have s30 := HA.out 30 57 (by decide) f30 rfl
          simp only [List.getD_cons_succ, List.getD_cons_zero] at s30
          have f31 : fs 31 = true := by cases ho; exact HAf.out ⟨31, .data⟩ (by simp) rfl
          have s31 := HA.out 31 58 (by decide) f31 rfl
          simp only [List.getD_cons_succ, List.getD_cons_zero] at s31
          have f29 : fs 29 = true := by cases ho; exact HAf.out ⟨29, .chain⟩ (by simp) rfl
          have s29 := HA.out 29 56 (by decide) f29 rfl
          simp only [List.getD_cons_succ, List.getD_cons_zero] at s29
          clear HAf HA HZ
          cases ho
          go_simp
          refine (HS3.out W HJ.out).mono ?_
          rintro e w3 ⟨rfl, hb3⟩
          exact HK.out _ (bstep HJ.out hb3)
        · intro o ho fs W HFi HAf HJ A HA HZ K' HK
          have f29 : fs 29 = true := by cases ho; exact HAf.out ⟨29, .data⟩ (by simp) rfl
          have s29 := HA.out 29 56 (by decide) f29 rfl
          simp only [List.getD_cons_succ, List.getD_cons_zero] at s29
          have f32 : fs 32 = true := by cases ho; exact HAf.out ⟨32, .data⟩ (by simp) rfl
          have s32 := HA.out 32 59 (by decide) f32 rfl
          simp only [List.getD_cons_succ, List.getD_cons_zero] at s32
          clear HAf HA HZ f29 f32
          cases ho
          go_simp
          exact HK.out _ HJ.out
      · intro W hJ
        simp only [canon, Act.put, List.getD_cons_succ, List.getD_cons_zero, List.drop_succ_cons, List.drop_zero, List.setIfInBounds_toArray, List.set_cons_zero, List.set_cons_succ]
        have HJ := Lib.hid (bstep HW7.out hJ)
        clear hJ
        go_wp2_with fail
        go_ret
        exact ⟨rfl, HJ.out⟩
end Go.Proofs.YtmcnhggpmlhgeaaGreatDoor
