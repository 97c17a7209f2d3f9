/-
  Walks: the scanner of lex: token, where a sign stands; all of token. (Printed by gen_lxm.py.)
-/
import Derived.Test.YtmcnhggpmlhgeaaGreatDoorLb
import Derived.Test.YtmcnhggpmlhgeaaGreatDoorFix
namespace Go.Proofs.YtmcnhggpmlhgeaaGreatDoor
open Go.RowKit
set_option maxRecDepth 100000 in
set_option maxHeartbeats 8000000 in
theorem token_sign (R : Nat) (T : List UInt8) (p : Nat) (b : Nat) (c : UInt8) (n : Nat) (w : World) (hr : Sc R T p (.map (some b)) w) (hw : Wds b w) (hbR : ¬ b = R) (hT : T.length ≤ 1000000) (hp : p < T.length) (hc : T[p] = c) (hhc : headC c = false) (hnc : numC c = false) (h34 : ¬ c.toNat = 34) (h97 : ¬ 97 ≤ c.toNat) (hn : signN (T.drop p) = n) (hz : ¬ n = 0) :
    Calls Tryz.prog 26 #[.pointer (some ⟨R, 0, none⟩)] w (TokP (.tok 6 ((T.drop p).take n) 0 ((T.drop p).drop n)) R T p (.map (some b)) w) := by
  have hnl := signN_le (T.drop p)
  rw [hn, List.length_drop] at hnl
  have HN := Lib.hid hn
  clear hn
  have s1 : ((ba T).size : Int) = (T.length : Int) := by rw [ba_size]
  have s2 : (ba T).size = T.length := by rw [ba_size]
  have hpi : (p : Int) < (T.length : Int) := by omega
  have hks : p < (ba T).size := by rw [ba_size]; exact hp
  have HC := Lib.hid (show (ba T)[p]'hks = c from hc)
  clear hc
  have hRw : R < w.heap.size := lt_of_block hr
  have hbw : b < w.heap.size := World.ownsMap.lt hw
  have HA := Lib.hid (show Bq w [.blk R #[.string (ba T), .int .i64 ((p : Int)), .map (some b)] 43, .any (fun k => k = b) (Wds b) (fun _ _ h hk hz => Wds.keep h hk hz), .base (fun b => b = R) w] from ⟨hr, hw, Ch.refl _ _, trivial⟩)
  clear hr hw
  go_enter Tryz.func26, Tryz.ntmps26
  go_upto_region 2 with (fail)
  have HB := Lib.hid (HA.out.box #[.int .i64 0, .string ⟨#[]⟩, .int .u64 0, .int .i64 0] 36 (n := w.heap.size) rfl)
  clear HA
  generalize w.alloc (.cells #[.int .i64 0, .string ⟨#[]⟩, .int .u64 0, .int .i64 0] 36 (0, 0)) = w1 at HB ⊢
  have c0 := cells_of (HB.out.blk 1 rfl) 0
  have c1 := cells_of (HB.out.blk 1 rfl) 1
  have c2 := cells_of (HB.out.blk 1 rfl) 2
  go_still_tail 9, (by kernel_rfl)
  go_upto_region 3 with (fail)
  have hcc := HC.out.symm
  generalize (ba T)[p]'hks = c' at hcc ⊢
  subst hcc
  have hH := (Bool.not_eq_true _).mpr hhc
  rw [headC_iff] at hH
  have hN := (Bool.not_eq_true _).mpr hnc
  rw [numC_iff] at hN
  have hlc : letC2 c = false := by rw [← Bool.not_eq_true, letC2_iff]; omega
  have HLt := Lib.hid fun W => (letter_p c W).mono fun e w' h => (show e = .returned (.bool false) ∧ w' = W by rw [show letC2 c = false from hlc] at h; exact h)
  clear hlc
  have x95 : ((c.toNat : Int) == 95) = false := by simp; omega
  have hdc : numC c = false := by rw [← Bool.not_eq_true, numC_iff]; omega
  have HDg := Lib.hid fun W => (digit_p c W).mono fun e w' h => (show e = .returned (.bool false) ∧ w' = W by rw [show numC c = false from hdc] at h; exact h)
  clear hdc
  have x34 : ((c.toNat : Int) == 34) = false := by simp; omega
  have l97 : ¬ (97 : Int) ≤ (c.toNat : Int) := by omega
  clear hH hN hhc hnc h34
  go_wp2_with fail
  all_goals (try (exfalso; omega))
  refine (HLt.out w1.drew).mono ?_
  rintro e w' ⟨rfl, rfl⟩
  go_wp2_with fail
  all_goals (try (exfalso; omega))
  refine (HDg.out w1.drew).mono ?_
  rintro e w' ⟨rfl, rfl⟩
  go_upto_region 11 with (fail)
  clear c0 c1 c2
  have hp0 : (p : Int) ≤ (T.length : Int) := by omega
  have hp1 : p ≤ T.length := by omega
  have hp00 : (0 : Int) ≤ (p : Int) := by omega
  have HD := Lib.hid HB.out.dr
  generalize w1.drew = w2 at HD ⊢
  have c0 := cells_of (HD.out.blk 1 rfl) 0
  have c1 := cells_of (HD.out.blk 1 rfl) 1
  have c2 := cells_of (HD.out.blk 1 rfl) 2
  go_still_tail 9, (by kernel_rfl)
  go_wp2_with fail
  refine (show Calls Tryz.prog 43 #[.string ((ba T).extract p T.length)] w2.drew (fun e w' => e = .returned (.int .i64 (n : Int)) ∧ w' = w2.drew) from by rw [extract_drop, ← HN.out]; exact sign_any _ _ (by rw [List.length_drop]; omega)).mono ?_
  rintro e w3 ⟨rfl, hw3⟩
  have HF := Lib.hid (HD.out.dr)
  rw [← hw3] at HF
  clear hw3 c0 c1 c2
  have xn : ((n : Int) == 0) = false := by simp; omega
  clear hz
  obtain ⟨P, hP⟩ : ∃ P : Nat, (p : Int) + (n : Int) = (P : Int) := ⟨p + n, by omega⟩
  have hPl : (P : Int) ≤ (T.length : Int) := by omega
  have hPl2 : P ≤ T.length := by omega
  have hpP : (p : Int) ≤ (P : Int) := by omega
  have hpP2 : p ≤ P := by omega
  have hP0 : (0 : Int) ≤ (P : Int) := by omega
  have c0 := cells_of (HF.out.blk 1 rfl) 0
  have c1 := cells_of (HF.out.blk 1 rfl) 1
  have c2 := cells_of (HF.out.blk 1 rfl) 2
  have fr := frees_of (HF.out.blk 1 rfl)
  have frk := fr 1
  go_upto_region 15 with (fail)
  have HE := Lib.hid (HF.out.set 1 rfl 1 (.int .i64 (P : Int)) (by refine ⟨?_, ?_, ?_, trivial⟩ <;> (simp only [Fq.apart]; first | omega | (intro b h1 h2; omega) | (intro b h1; omega) | (intro b h1 h2 h3; omega))))
  generalize w3.setCell ⟨R, 1, none⟩ (.int .i64 (P : Int)) = w4 at HE ⊢
  clear c0 c1 c2 fr frk
  have hsub : (P : Int) - (n : Int) = (p : Int) := by omega
  have hwp : IntKind.i64.wrap (p : Int) = (p : Int) := by rw [IntKind.wrap_i64]; omega
  have HEx := Lib.hid (show (ba T).extract p P = ba ((T.drop p).take n) by rw [show P = p + n by omega]; exact extract_sign T p n)
  have HPn := Lib.hid (show P = p + n by omega)
  clear hP
  have HE2 := Lib.hid (show Bq w4.drew [.blk R (#[.string (ba T), .int .i64 (P : Int), .map (some b)]) 43, .blk w.heap.size #[.int .i64 0, .string ⟨#[]⟩, .int .u64 0, .int .i64 0] 36, .any (fun k => k = b) (Wds b) (fun _ _ h hk hz => Wds.keep h hk hz), .base (fun b => b = R) w] from HE.out.dr)
  refine' wp_region_fix (by kernel_rfl) 16 [some 70, some 71, some 72, some 73, some 74, some 75, some 76, some 77, some 78, some 79, some 80, some 81, some 82, some 83, some 84, some 85] [_, _, _, _, _, _, _, _, _, _, _, _, _, _, _, _] [] (fun _ W => Bq W [.blk R (#[.string (ba T), .int .i64 (P : Int), .map (some b)]) 43, .blk w.heap.size #[.int .i64 0, .string ⟨#[]⟩, .int .u64 0, .int .i64 0] 36, .any (fun k => k = b) (Wds b) (fun _ _ h hk hz => Wds.keep h hk hz), .base (fun b => b = R) w]) (by kernel_rfl) (by decide) (by kernel_rfl) (by decide) (by rfl) (by decide) (HE2.out) ?_ ?_
  rotate_left 16
  · refine all_cons 0 ?_ (all_cons 1 ?_ (all_cons 2 ?_ (all_cons 3 ?_ (all_cons 4 ?_ (all_cons 5 ?_ (all_cons 6 ?_ (all_cons 7 ?_ (all_cons 8 ?_ (all_cons 9 ?_ (all_cons 10 ?_ (all_cons 11 ?_ (all_cons 12 ?_ (all_cons 13 ?_ (all_cons 14 ?_ (all_cons 15 ?_ (all_done 16))))))))))))))))
    · intro o ho fs W HFi HAf HJ A HA HZ K' HK
      have z0 : A.tmps[0]? = some _ := HZ.out 0 (by decide)
      clear HAf HA HZ
      cases ho
      go_simp
      exact HK.out _ HJ.out
    · intro o ho fs W HFi HAf HJ A HA HZ K' HK
      have f0 : fs 0 = true := by cases ho; exact HAf.out ⟨0, .data⟩ (by simp) rfl
      have s0 := HA.out 0 70 (by decide) f0 rfl
      simp only [List.getD_cons_zero] at s0
      clear HAf HA HZ f0
      cases ho
      go_simp
      exact HK.out _ HJ.out
    · intro o ho fs W HFi HAf HJ A HA HZ K' HK
      have f1 : fs 1 = true := by cases ho; exact HAf.out ⟨1, .data⟩ (by simp) rfl
      have s1 := HA.out 1 71 (by decide) f1 rfl
      simp only [List.getD_cons_succ, List.getD_cons_zero] at s1
      clear HAf HA HZ f1
      cases ho
      go_simp
      exact HK.out _ HJ.out
    · intro o ho fs W HFi HAf HJ A HA HZ K' HK
      have f2 : fs 2 = true := by cases ho; exact HAf.out ⟨2, .data⟩ (by simp) rfl
      have s2 := HA.out 2 72 (by decide) f2 rfl
      simp only [List.getD_cons_succ, List.getD_cons_zero] at s2
      clear HAf HA HZ f2
      have c0 := cells_of (HJ.out.blk 0 rfl) 0
      have c1 := cells_of (HJ.out.blk 0 rfl) 1
      have c2 := cells_of (HJ.out.blk 0 rfl) 2
      cases ho
      go_simp
      exact HK.out _ HJ.out
    · intro o ho fs W HFi HAf HJ A HA HZ K' HK
      have z0 : A.tmps[0]? = some _ := HZ.out 0 (by decide)
      clear HAf HA HZ
      cases ho
      go_simp
      exact HK.out _ HJ.out
    · intro o ho fs W HFi HAf HJ A HA HZ K' HK
      have f4 : fs 4 = true := by cases ho; exact HAf.out ⟨4, .data⟩ (by simp) rfl
      have s4 := HA.out 4 74 (by decide) f4 rfl
      simp only [List.getD_cons_succ, List.getD_cons_zero] at s4
      clear HAf HA HZ f4
      cases ho
      go_simp
      exact HK.out _ HJ.out
    · intro o ho fs W HFi HAf HJ A HA HZ K' HK
      have f5 : fs 5 = true := by cases ho; exact HAf.out ⟨5, .data⟩ (by simp) rfl
      have s5 := HA.out 5 75 (by decide) f5 rfl
      simp only [List.getD_cons_succ, List.getD_cons_zero] at s5
      clear HAf HA HZ f5
      cases ho
      go_simp
      exact HK.out _ HJ.out
    · intro o ho fs W HFi HAf HJ A HA HZ K' HK
      have f6 : fs 6 = true := by cases ho; exact HAf.out ⟨6, .data⟩ (by simp) rfl
      have s6 := HA.out 6 76 (by decide) f6 rfl
      simp only [List.getD_cons_succ, List.getD_cons_zero] at s6
      clear HAf HA HZ f6
      have c0 := cells_of (HJ.out.blk 0 rfl) 0
      have c1 := cells_of (HJ.out.blk 0 rfl) 1
      have c2 := cells_of (HJ.out.blk 0 rfl) 2
      cases ho
      go_simp
      exact HK.out _ HJ.out
    · intro o ho fs W HFi HAf HJ A HA HZ K' HK
      have z6 : A.tmps[6]? = some _ := HZ.out 6 (by decide)
      clear HAf HA HZ
      cases ho
      go_simp
      exact HK.out _ HJ.out
    · intro o ho fs W HFi HAf HJ A HA HZ K' HK
      have f7 : fs 7 = true := by cases ho; exact HAf.out ⟨7, .data⟩ (by simp) rfl
      have s7 := HA.out 7 77 (by decide) f7 rfl
      simp only [List.getD_cons_succ, List.getD_cons_zero] at s7
      have f8 : fs 8 = true := by cases ho; exact HAf.out ⟨8, .data⟩ (by simp) rfl
      have s8 := HA.out 8 78 (by decide) f8 rfl
      simp only [List.getD_cons_succ, List.getD_cons_zero] at s8
      clear HAf HA HZ f7 f8
      cases ho
      go_simp
      exact HK.out _ HJ.out
    · intro o ho fs W HFi HAf HJ A HA HZ K' HK
      have z0 : A.tmps[0]? = some _ := HZ.out 0 (by decide)
      clear HAf HA HZ
      cases ho
      go_simp
      exact HK.out _ HJ.out
    · intro o ho fs W HFi HAf HJ A HA HZ K' HK
      have f10 : fs 10 = true := by cases ho; exact HAf.out ⟨10, .data⟩ (by simp) rfl
      have s10 := HA.out 10 80 (by decide) f10 rfl
      simp only [List.getD_cons_succ, List.getD_cons_zero] at s10
      clear HAf HA HZ f10
      cases ho
      go_simp
      exact HK.out _ HJ.out
    · intro o ho fs W HFi HAf HJ A HA HZ K' HK
      have f11 : fs 11 = true := by cases ho; exact HAf.out ⟨11, .data⟩ (by simp) rfl
      have s11 := HA.out 11 81 (by decide) f11 rfl
      simp only [List.getD_cons_succ, List.getD_cons_zero] at s11
      clear HAf HA HZ f11
      cases ho
      go_simp
      exact HK.out _ HJ.out
    · intro o ho fs W HFi HAf HJ A HA HZ K' HK
      have f12 : fs 12 = true := by cases ho; exact HAf.out ⟨12, .data⟩ (by simp) rfl
      have s12 := HA.out 12 82 (by decide) f12 rfl
      simp only [List.getD_cons_succ, List.getD_cons_zero] at s12
      clear HAf HA HZ f12
      have c0 := cells_of (HJ.out.blk 0 rfl) 0
      have c1 := cells_of (HJ.out.blk 0 rfl) 1
      have c2 := cells_of (HJ.out.blk 0 rfl) 2
      cases ho
      go_simp
      exact HK.out _ HJ.out
    · intro o ho fs W HFi HAf HJ A HA HZ K' HK
      have f3 : fs 3 = true := by cases ho; exact HAf.out ⟨3, .data⟩ (by simp) rfl
      have s3 := HA.out 3 73 (by decide) f3 rfl
      simp only [List.getD_cons_succ, List.getD_cons_zero] at s3
      have f9 : fs 9 = true := by cases ho; exact HAf.out ⟨9, .data⟩ (by simp) rfl
      have s9 := HA.out 9 79 (by decide) f9 rfl
      simp only [List.getD_cons_succ, List.getD_cons_zero] at s9
      have f13 : fs 13 = true := by cases ho; exact HAf.out ⟨13, .data⟩ (by simp) rfl
      have s13 := HA.out 13 83 (by decide) f13 rfl
      simp only [List.getD_cons_succ, List.getD_cons_zero] at s13
      clear HAf HA HZ f3 f9 f13
      cases ho
      go_simp
      exact HK.out _ HJ.out
    · intro o ho fs W HFi HAf HJ A HA HZ K' HK
      have f14 : fs 14 = true := by cases ho; exact HAf.out ⟨14, .data⟩ (by simp) rfl
      have s14 := HA.out 14 84 (by decide) f14 rfl
      simp only [List.getD_cons_succ, List.getD_cons_zero] at s14
      clear HAf HA HZ f14
      cases ho
      go_simp
      exact HK.out _ HJ.out
  · intro W hJ
    simp only [canon, Act.put, List.getD_cons_succ, List.getD_cons_zero, List.drop_succ_cons, List.drop_zero, List.setIfInBounds_toArray, List.set_cons_zero, List.set_cons_succ]
    have HG0 := Lib.hid hJ
    clear hJ
    obtain ⟨d0, d1, d2, d3, fd⟩ := four_cells (HG0.out.blk 1 rfl)
    go_wp2_with fail
    have HG := Lib.hid (HG0.out.put 1 rfl (by refine ⟨?_, ?_, ?_, trivial⟩ <;> (simp only [Fq.apart]; first | omega | (intro b h1 h2; omega) | (intro b h1; omega) | (intro b h1 h2 h3; omega))) (.int .i64 6) (.string ((ba T).extract p P)) (.int .u64 0) (.int .i64 0))
    refine bodyPost_ret (results_tok rfl _ _ _ _ _ _ _ rfl (HG.out.blk 0 rfl)) rfl ?_
    exact ⟨by rw [HEx.out]; rfl, P, by omega, by omega, (by show T.drop P = (T.drop p).drop n; rw [List.drop_drop, HPn.out]), (HG.out.blk 1 rfl), HG.out.base 3 rfl⟩
set_option maxRecDepth 100000 in
set_option maxHeartbeats 8000000 in
theorem token_sign2 (R : Nat) (T : List UInt8) (p : Nat) (b : Nat) (c : UInt8) (n : Nat) (w : World) (hr : Sc R T p (.map (some b)) w) (hw : Wds b w) (hbR : ¬ b = R) (hT : T.length ≤ 1000000) (hp : p < T.length) (hc : T[p] = c) (hhc : headC c = false) (hnc : numC c = false) (h122 : ¬ c.toNat ≤ 122) (hn : signN (T.drop p) = n) (hz : ¬ n = 0) :
    Calls Tryz.prog 26 #[.pointer (some ⟨R, 0, none⟩)] w (TokP (.tok 6 ((T.drop p).take n) 0 ((T.drop p).drop n)) R T p (.map (some b)) w) := by
  have hnl := signN_le (T.drop p)
  rw [hn, List.length_drop] at hnl
  have HN := Lib.hid hn
  clear hn
  have s1 : ((ba T).size : Int) = (T.length : Int) := by rw [ba_size]
  have s2 : (ba T).size = T.length := by rw [ba_size]
  have hpi : (p : Int) < (T.length : Int) := by omega
  have hks : p < (ba T).size := by rw [ba_size]; exact hp
  have HC := Lib.hid (show (ba T)[p]'hks = c from hc)
  clear hc
  have hRw : R < w.heap.size := lt_of_block hr
  have hbw : b < w.heap.size := World.ownsMap.lt hw
  have HA := Lib.hid (show Bq w [.blk R #[.string (ba T), .int .i64 ((p : Int)), .map (some b)] 43, .any (fun k => k = b) (Wds b) (fun _ _ h hk hz => Wds.keep h hk hz), .base (fun b => b = R) w] from ⟨hr, hw, Ch.refl _ _, trivial⟩)
  clear hr hw
  go_enter Tryz.func26, Tryz.ntmps26
  go_upto_region 2 with (fail)
  have HB := Lib.hid (HA.out.box #[.int .i64 0, .string ⟨#[]⟩, .int .u64 0, .int .i64 0] 36 (n := w.heap.size) rfl)
  clear HA
  generalize w.alloc (.cells #[.int .i64 0, .string ⟨#[]⟩, .int .u64 0, .int .i64 0] 36 (0, 0)) = w1 at HB ⊢
  have c0 := cells_of (HB.out.blk 1 rfl) 0
  have c1 := cells_of (HB.out.blk 1 rfl) 1
  have c2 := cells_of (HB.out.blk 1 rfl) 2
  go_still_tail 9, (by kernel_rfl)
  go_upto_region 3 with (fail)
  have hcc := HC.out.symm
  generalize (ba T)[p]'hks = c' at hcc ⊢
  subst hcc
  have hH := (Bool.not_eq_true _).mpr hhc
  rw [headC_iff] at hH
  have hN := (Bool.not_eq_true _).mpr hnc
  rw [numC_iff] at hN
  have hlc : letC2 c = false := by rw [← Bool.not_eq_true, letC2_iff]; omega
  have HLt := Lib.hid fun W => (letter_p c W).mono fun e w' h => (show e = .returned (.bool false) ∧ w' = W by rw [show letC2 c = false from hlc] at h; exact h)
  clear hlc
  have x95 : ((c.toNat : Int) == 95) = false := by simp; omega
  have hdc : numC c = false := by rw [← Bool.not_eq_true, numC_iff]; omega
  have HDg := Lib.hid fun W => (digit_p c W).mono fun e w' h => (show e = .returned (.bool false) ∧ w' = W by rw [show numC c = false from hdc] at h; exact h)
  clear hdc
  have x34 : ((c.toNat : Int) == 34) = false := by simp; omega
  have l97 : (97 : Int) ≤ (c.toNat : Int) := by omega
  have l122 : ¬ (c.toNat : Int) ≤ 122 := by omega
  clear hH hN hhc hnc
  go_wp2_with fail
  all_goals (try (exfalso; omega))
  refine (HLt.out w1.drew).mono ?_
  rintro e w' ⟨rfl, rfl⟩
  go_wp2_with fail
  all_goals (try (exfalso; omega))
  refine (HDg.out w1.drew).mono ?_
  rintro e w' ⟨rfl, rfl⟩
  go_upto_region 11 with (fail)
  clear c0 c1 c2
  have hp0 : (p : Int) ≤ (T.length : Int) := by omega
  have hp1 : p ≤ T.length := by omega
  have hp00 : (0 : Int) ≤ (p : Int) := by omega
  have HD := Lib.hid HB.out.dr
  generalize w1.drew = w2 at HD ⊢
  have c0 := cells_of (HD.out.blk 1 rfl) 0
  have c1 := cells_of (HD.out.blk 1 rfl) 1
  have c2 := cells_of (HD.out.blk 1 rfl) 2
  go_still_tail 9, (by kernel_rfl)
  go_wp2_with fail
  refine (show Calls Tryz.prog 43 #[.string ((ba T).extract p T.length)] w2.drew (fun e w' => e = .returned (.int .i64 (n : Int)) ∧ w' = w2.drew) from by rw [extract_drop, ← HN.out]; exact sign_any _ _ (by rw [List.length_drop]; omega)).mono ?_
  rintro e w3 ⟨rfl, hw3⟩
  have HF := Lib.hid (HD.out.dr)
  rw [← hw3] at HF
  clear hw3 c0 c1 c2
  have xn : ((n : Int) == 0) = false := by simp; omega
  clear hz
  obtain ⟨P, hP⟩ : ∃ P : Nat, (p : Int) + (n : Int) = (P : Int) := ⟨p + n, by omega⟩
  have hPl : (P : Int) ≤ (T.length : Int) := by omega
  have hPl2 : P ≤ T.length := by omega
  have hpP : (p : Int) ≤ (P : Int) := by omega
  have hpP2 : p ≤ P := by omega
  have hP0 : (0 : Int) ≤ (P : Int) := by omega
  have c0 := cells_of (HF.out.blk 1 rfl) 0
  have c1 := cells_of (HF.out.blk 1 rfl) 1
  have c2 := cells_of (HF.out.blk 1 rfl) 2
  have fr := frees_of (HF.out.blk 1 rfl)
  have frk := fr 1
  go_upto_region 15 with (fail)
  have HE := Lib.hid (HF.out.set 1 rfl 1 (.int .i64 (P : Int)) (by refine ⟨?_, ?_, ?_, trivial⟩ <;> (simp only [Fq.apart]; first | omega | (intro b h1 h2; omega) | (intro b h1; omega) | (intro b h1 h2 h3; omega))))
  generalize w3.setCell ⟨R, 1, none⟩ (.int .i64 (P : Int)) = w4 at HE ⊢
  clear c0 c1 c2 fr frk
  have hsub : (P : Int) - (n : Int) = (p : Int) := by omega
  have hwp : IntKind.i64.wrap (p : Int) = (p : Int) := by rw [IntKind.wrap_i64]; omega
  have HEx := Lib.hid (show (ba T).extract p P = ba ((T.drop p).take n) by rw [show P = p + n by omega]; exact extract_sign T p n)
  have HPn := Lib.hid (show P = p + n by omega)
  clear hP
  have HE2 := Lib.hid (show Bq w4.drew [.blk R (#[.string (ba T), .int .i64 (P : Int), .map (some b)]) 43, .blk w.heap.size #[.int .i64 0, .string ⟨#[]⟩, .int .u64 0, .int .i64 0] 36, .any (fun k => k = b) (Wds b) (fun _ _ h hk hz => Wds.keep h hk hz), .base (fun b => b = R) w] from HE.out.dr)
  refine' wp_region_fix (by kernel_rfl) 16 [some 70, some 71, some 72, some 73, some 74, some 75, some 76, some 77, some 78, some 79, some 80, some 81, some 82, some 83, some 84, some 85] [_, _, _, _, _, _, _, _, _, _, _, _, _, _, _, _] [] (fun _ W => Bq W [.blk R (#[.string (ba T), .int .i64 (P : Int), .map (some b)]) 43, .blk w.heap.size #[.int .i64 0, .string ⟨#[]⟩, .int .u64 0, .int .i64 0] 36, .any (fun k => k = b) (Wds b) (fun _ _ h hk hz => Wds.keep h hk hz), .base (fun b => b = R) w]) (by kernel_rfl) (by decide) (by kernel_rfl) (by decide) (by rfl) (by decide) (HE2.out) ?_ ?_
  rotate_left 16
  · refine all_cons 0 ?_ (all_cons 1 ?_ (all_cons 2 ?_ (all_cons 3 ?_ (all_cons 4 ?_ (all_cons 5 ?_ (all_cons 6 ?_ (all_cons 7 ?_ (all_cons 8 ?_ (all_cons 9 ?_ (all_cons 10 ?_ (all_cons 11 ?_ (all_cons 12 ?_ (all_cons 13 ?_ (all_cons 14 ?_ (all_cons 15 ?_ (all_done 16))))))))))))))))
    · intro o ho fs W HFi HAf HJ A HA HZ K' HK
      have z0 : A.tmps[0]? = some _ := HZ.out 0 (by decide)
      clear HAf HA HZ
      cases ho
      go_simp
      exact HK.out _ HJ.out
    · intro o ho fs W HFi HAf HJ A HA HZ K' HK
      have f0 : fs 0 = true := by cases ho; exact HAf.out ⟨0, .data⟩ (by simp) rfl
      have s0 := HA.out 0 70 (by decide) f0 rfl
      simp only [List.getD_cons_zero] at s0
      clear HAf HA HZ f0
      cases ho
      go_simp
      exact HK.out _ HJ.out
    · intro o ho fs W HFi HAf HJ A HA HZ K' HK
      have f1 : fs 1 = true := by cases ho; exact HAf.out ⟨1, .data⟩ (by simp) rfl
      have s1 := HA.out 1 71 (by decide) f1 rfl
      simp only [List.getD_cons_succ, List.getD_cons_zero] at s1
      clear HAf HA HZ f1
      cases ho
      go_simp
      exact HK.out _ HJ.out
    · intro o ho fs W HFi HAf HJ A HA HZ K' HK
      have f2 : fs 2 = true := by cases ho; exact HAf.out ⟨2, .data⟩ (by simp) rfl
      have s2 := HA.out 2 72 (by decide) f2 rfl
      simp only [List.getD_cons_succ, List.getD_cons_zero] at s2
      clear HAf HA HZ f2
      have c0 := cells_of (HJ.out.blk 0 rfl) 0
      have c1 := cells_of (HJ.out.blk 0 rfl) 1
      have c2 := cells_of (HJ.out.blk 0 rfl) 2
      cases ho
      go_simp
      exact HK.out _ HJ.out
    · intro o ho fs W HFi HAf HJ A HA HZ K' HK
      have z0 : A.tmps[0]? = some _ := HZ.out 0 (by decide)
      clear HAf HA HZ
      cases ho
      go_simp
      exact HK.out _ HJ.out
    · intro o ho fs W HFi HAf HJ A HA HZ K' HK
      have f4 : fs 4 = true := by cases ho; exact HAf.out ⟨4, .data⟩ (by simp) rfl
      have s4 := HA.out 4 74 (by decide) f4 rfl
      simp only [List.getD_cons_succ, List.getD_cons_zero] at s4
      clear HAf HA HZ f4
      cases ho
      go_simp
      exact HK.out _ HJ.out
    · intro o ho fs W HFi HAf HJ A HA HZ K' HK
      have f5 : fs 5 = true := by cases ho; exact HAf.out ⟨5, .data⟩ (by simp) rfl
      have s5 := HA.out 5 75 (by decide) f5 rfl
      simp only [List.getD_cons_succ, List.getD_cons_zero] at s5
      clear HAf HA HZ f5
      cases ho
      go_simp
      exact HK.out _ HJ.out
    · intro o ho fs W HFi HAf HJ A HA HZ K' HK
      have f6 : fs 6 = true := by cases ho; exact HAf.out ⟨6, .data⟩ (by simp) rfl
      have s6 := HA.out 6 76 (by decide) f6 rfl
      simp only [List.getD_cons_succ, List.getD_cons_zero] at s6
      clear HAf HA HZ f6
      have c0 := cells_of (HJ.out.blk 0 rfl) 0
      have c1 := cells_of (HJ.out.blk 0 rfl) 1
      have c2 := cells_of (HJ.out.blk 0 rfl) 2
      cases ho
      go_simp
      exact HK.out _ HJ.out
    · intro o ho fs W HFi HAf HJ A HA HZ K' HK
      have z6 : A.tmps[6]? = some _ := HZ.out 6 (by decide)
      clear HAf HA HZ
      cases ho
      go_simp
      exact HK.out _ HJ.out
    · intro o ho fs W HFi HAf HJ A HA HZ K' HK
      have f7 : fs 7 = true := by cases ho; exact HAf.out ⟨7, .data⟩ (by simp) rfl
      have s7 := HA.out 7 77 (by decide) f7 rfl
      simp only [List.getD_cons_succ, List.getD_cons_zero] at s7
      have f8 : fs 8 = true := by cases ho; exact HAf.out ⟨8, .data⟩ (by simp) rfl
      have s8 := HA.out 8 78 (by decide) f8 rfl
      simp only [List.getD_cons_succ, List.getD_cons_zero] at s8
      clear HAf HA HZ f7 f8
      cases ho
      go_simp
      exact HK.out _ HJ.out
    · intro o ho fs W HFi HAf HJ A HA HZ K' HK
      have z0 : A.tmps[0]? = some _ := HZ.out 0 (by decide)
      clear HAf HA HZ
      cases ho
      go_simp
      exact HK.out _ HJ.out
    · intro o ho fs W HFi HAf HJ A HA HZ K' HK
      have f10 : fs 10 = true := by cases ho; exact HAf.out ⟨10, .data⟩ (by simp) rfl
      have s10 := HA.out 10 80 (by decide) f10 rfl
      simp only [List.getD_cons_succ, List.getD_cons_zero] at s10
      clear HAf HA HZ f10
      cases ho
      go_simp
      exact HK.out _ HJ.out
    · intro o ho fs W HFi HAf HJ A HA HZ K' HK
      have f11 : fs 11 = true := by cases ho; exact HAf.out ⟨11, .data⟩ (by simp) rfl
      have s11 := HA.out 11 81 (by decide) f11 rfl
      simp only [List.getD_cons_succ, List.getD_cons_zero] at s11
      clear HAf HA HZ f11
      cases ho
      go_simp
      exact HK.out _ HJ.out
    · intro o ho fs W HFi HAf HJ A HA HZ K' HK
      have f12 : fs 12 = true := by cases ho; exact HAf.out ⟨12, .data⟩ (by simp) rfl
      have s12 := HA.out 12 82 (by decide) f12 rfl
      simp only [List.getD_cons_succ, List.getD_cons_zero] at s12
      clear HAf HA HZ f12
      have c0 := cells_of (HJ.out.blk 0 rfl) 0
      have c1 := cells_of (HJ.out.blk 0 rfl) 1
      have c2 := cells_of (HJ.out.blk 0 rfl) 2
      cases ho
      go_simp
      exact HK.out _ HJ.out
    · intro o ho fs W HFi HAf HJ A HA HZ K' HK
      have f3 : fs 3 = true := by cases ho; exact HAf.out ⟨3, .data⟩ (by simp) rfl
      have s3 := HA.out 3 73 (by decide) f3 rfl
      simp only [List.getD_cons_succ, List.getD_cons_zero] at s3
      have f9 : fs 9 = true := by cases ho; exact HAf.out ⟨9, .data⟩ (by simp) rfl
      have s9 := HA.out 9 79 (by decide) f9 rfl
      simp only [List.getD_cons_succ, List.getD_cons_zero] at s9
      have f13 : fs 13 = true := by cases ho; exact HAf.out ⟨13, .data⟩ (by simp) rfl
      have s13 := HA.out 13 83 (by decide) f13 rfl
      simp only [List.getD_cons_succ, List.getD_cons_zero] at s13
      clear HAf HA HZ f3 f9 f13
      cases ho
      go_simp
      exact HK.out _ HJ.out
    · intro o ho fs W HFi HAf HJ A HA HZ K' HK
      have f14 : fs 14 = true := by cases ho; exact HAf.out ⟨14, .data⟩ (by simp) rfl
      have s14 := HA.out 14 84 (by decide) f14 rfl
      simp only [List.getD_cons_succ, List.getD_cons_zero] at s14
      clear HAf HA HZ f14
      cases ho
      go_simp
      exact HK.out _ HJ.out
  · intro W hJ
    simp only [canon, Act.put, List.getD_cons_succ, List.getD_cons_zero, List.drop_succ_cons, List.drop_zero, List.setIfInBounds_toArray, List.set_cons_zero, List.set_cons_succ]
    have HG0 := Lib.hid hJ
    clear hJ
    obtain ⟨d0, d1, d2, d3, fd⟩ := four_cells (HG0.out.blk 1 rfl)
    go_wp2_with fail
    have HG := Lib.hid (HG0.out.put 1 rfl (by refine ⟨?_, ?_, ?_, trivial⟩ <;> (simp only [Fq.apart]; first | omega | (intro b h1 h2; omega) | (intro b h1; omega) | (intro b h1 h2 h3; omega))) (.int .i64 6) (.string ((ba T).extract p P)) (.int .u64 0) (.int .i64 0))
    refine bodyPost_ret (results_tok rfl _ _ _ _ _ _ _ rfl (HG.out.blk 0 rfl)) rfl ?_
    exact ⟨by rw [HEx.out]; rfl, P, by omega, by omega, (by show T.drop P = (T.drop p).drop n; rw [List.drop_drop, HPn.out]), (HG.out.blk 1 rfl), HG.out.base 3 rfl⟩
theorem high_of {c : UInt8} (hh : headC c = false) (h1 : 97 ≤ c.toNat) : ¬ c.toNat ≤ 122 := by
  intro h
  have : headC c = true := by rw [headC_iff]; omega
  rw [this] at hh; exact Bool.noConfusion hh
theorem tw_num_ne {T : List UInt8} {p : Nat} (hp : p < T.length) {c : UInt8} (hc : T[p] = c) (h : numC c = true) : (T.drop p).takeWhile numC ≠ [] := by
  rw [List.drop_eq_getElem_cons hp, hc, List.takeWhile_cons, if_pos h]
  exact List.cons_ne_nil _ _
theorem tokT_at {T : List UInt8} {p : Nat} {c : UInt8} (hp : p < T.length) (hc : T[p] = c) : tokT (T.drop p) = if headC c then nameT c (T.drop p) else if numC c then numT (T.drop p) else if c.toNat = 34 then quoE (quoT (T.drop (p + 1))) else if signN (T.drop p) = 0 then .bad 90 else .tok 6 ((T.drop p).take (signN (T.drop p))) 0 ((T.drop p).drop (signN (T.drop p))) := by
  rw [List.drop_eq_getElem_cons hp, hc, tokT]
  cases quoT (T.drop (p + 1)) <;> rfl
/-- token answers the token that begins next -/
theorem token_any (R : Nat) (T : List UInt8) (p : Nat) (b : Nat) (w : World) (hr : Sc R T p (.map (some b)) w) (hw : Wds b w) (hbR : ¬ b = R) (hT : T.length ≤ 1000000) (hp : p < T.length) (hTb : Tb w) (h9 : 6 ≤ R) :
    Calls Tryz.prog 26 #[.pointer (some ⟨R, 0, none⟩)] w (TokP (tokT (T.drop p)) R T p (.map (some b)) w) := by
  obtain ⟨c, hc⟩ : ∃ c, T[p] = c := ⟨_, rfl⟩
  rw [tokT_at hp hc]
  cases hh : headC c with
  | true =>
    rw [if_pos rfl]
    rw [headC_iff] at hh
    by_cases h1 : 97 ≤ c.toNat
    · exact token_small R T p b c w hr hw hbR hT hp hc (by omega) (by omega) hTb h9
    · by_cases h2 : c.toNat ≤ 90
      · exact token_cap R T p b c w hr hw hbR hT hp hc (by omega) (by omega) hTb h9
      · exact token_under R T p b c w hr hw hbR hT hp hc (by omega) hTb h9
  | false =>
    rw [if_neg Bool.false_ne_true]
    cases hn : numC c with
    | true =>
      rw [if_pos rfl]
      have hne := tw_num_ne hp hc hn
      rw [numC_iff] at hn
      exact token_digit R T p b c w hr hw hbR hT hp hc (by omega) (by omega) hne hTb h9
    | false =>
      rw [if_neg Bool.false_ne_true]
      by_cases h34 : c.toNat = 34
      · rw [if_pos h34]
        exact token_quote R T p b c w hr hw hbR hT hp hc h34 hTb h9
      · rw [if_neg h34]
        by_cases hz : signN (T.drop p) = 0
        · rw [if_pos hz]
          by_cases h1 : 97 ≤ c.toNat
          · exact token_nosign2 R T p b c w hr hw hbR hT hp hc hh hn h34 h1 (high_of hh h1) hz
          · exact token_nosign R T p b c w hr hw hbR hT hp hc hh hn h34 h1 hz
        · rw [if_neg hz]
          by_cases h1 : 97 ≤ c.toNat
          · exact token_sign2 R T p b c _ w hr hw hbR hT hp hc hh hn (high_of hh h1) rfl hz
          · exact token_sign R T p b c _ w hr hw hbR hT hp hc hh hn h34 h1 rfl hz
end Go.Proofs.YtmcnhggpmlhgeaaGreatDoor
