/-
  Walks: the reference: token, signs; all of token.
-/
import Derived.Test.YtmcnhggpmlhgeaaGreatDoorRfb
import Derived.Test.YtmcnhggpmlhgeaaGreatDoorFix
namespace Go.Proofs.YtmcnhggpmlhgeaaGreatDoor
open Go.RowKit
theorem sign_found {s x : List UInt8} (h : firstS s = some x) : signN s ≠ 0 ∧ x = s.take (signN s) ∧ x.length = signN s := by
  rw [first_sign] at h
  split at h
  · cases h
  · rename_i h0
    injection h with h
    exact ⟨h0, h.symm, by rw [← h]; exact (signN_take h0).2⟩
theorem sign_none {s : List UInt8} (h : firstS s = none) : signN s = 0 := by
  rw [first_sign] at h
  split at h
  · assumption
  · cases h
set_option maxRecDepth 100000 in
set_option maxHeartbeats 8000000 in
theorem rtok_sign (c : UInt8) (r s : List UInt8) (w : World) (hs : s = c :: r) (hl : s.length ≤ 1000000) (h1 : headC c = false) (h2 : numC c = false) (h3 : ¬ c.toNat = 34) :
    Calls Tryz.prog 27 #[.string (ba s)] w fun e w' => e = .returned (refV s (if signN s = 0 then .bad 90 else .tok 6 (s.take (signN s)) 0 (s.drop (signN s)))) ∧ Below w.heap.size w w' := by
  have s1 : ((ba s).size : Int) = (s.length : Int) := by rw [ba_size]
  have s2 : (ba s).size = s.length := by rw [ba_size]
  have hsl : 0 < s.length := by rw [hs]; simp
  have hz0 : 0 < (ba s).size := by omega
  have hc0 : (ba s)[0]'hz0 = c := head_at3 hs hz0
  have HS := Lib.hid hs
  clear hs
  have q1 := (Bool.not_eq_true _).mpr h1
  rw [headC_iff] at q1
  have q2 := (Bool.not_eq_true _).mpr h2
  rw [numC_iff] at q2
  have Hsmall_r := Lib.hid fun W => (small_r c W).mono fun e w' h => (show e = .returned (.bool false) ∧ w' = W by rw [show smallC c = false from by first | (rw [smallC_iff]; omega) | (rw [← Bool.not_eq_true, smallC_iff]; omega)] at h; exact h)
  have Hcapital_r := Lib.hid fun W => (capital_r c W).mono fun e w' h => (show e = .returned (.bool false) ∧ w' = W by rw [show capC c = false from by first | (rw [capC_iff]; omega) | (rw [← Bool.not_eq_true, capC_iff]; omega)] at h; exact h)
  have x95 : ((c.toNat : Int) == 95) = false := by simp; omega
  have Hdigit_r := Lib.hid fun W => (digit_r c W).mono fun e w' h => (show e = .returned (.bool false) ∧ w' = W by rw [show numC c = false from by first | (rw [numC_iff]; omega) | (rw [← Bool.not_eq_true, numC_iff]; omega)] at h; exact h)
  have x34 : ((c.toNat : Int) == 34) = false := by simp; omega
  clear q1 q2 h1 h2 h3
  have HR0 := Lib.hid (show firstS s = (signL.drop 0).find? fun x => x.isPrefixOf s from rfl)
  generalize hTR : (if signN s = 0 then TR.bad 90 else .tok 6 (s.take (signN s)) 0 (s.drop (signN s))) = tr
  have HTR := Lib.hid hTR
  clear hTR
  have HA := Lib.hid (show Bq w [.base (fun _ => False) w] from ⟨Ch.refl _ _, trivial⟩)
  go_enter Tryz.func27, Tryz.ntmps27
  go_upto_region 1 with (fail)
  have HB := Lib.hid (HA.out.box #[.int .i64 0, .string ⟨#[]⟩, .int .u64 0, .int .i64 0] 36 (n := w.heap.size) rfl)
  clear HA
  generalize w.alloc (.cells #[.int .i64 0, .string ⟨#[]⟩, .int .u64 0, .int .i64 0] 36 (0, 0)) = w1 at HB ⊢
  go_wp2_with fail
  refine (Hsmall_r.out _).mono ?_
  rintro e w' ⟨rfl, rfl⟩
  go_wp2_with fail
  refine (Hcapital_r.out _).mono ?_
  rintro e w' ⟨rfl, rfl⟩
  go_wp2_with fail
  refine (Hdigit_r.out _).mono ?_
  rintro e w' ⟨rfl, rfl⟩
  go_wp2_with fail
  refine (signs_r _).mono ?_
  rintro e w3 ⟨rfl, hw3⟩
  have hgw : w.heap.size < w'.heap.size := lt_of_block (HB.out.blk 0 rfl)
  obtain ⟨G, hG⟩ : ∃ G, w'.heap.size = G := ⟨_, rfl⟩
  have HC := Lib.hid (HB.out.box (strVs signL) 9 (n := G) hG)
  rw [← hw3] at HC
  rw [hG] at hgw ⊢
  clear HB hw3 hG
  have hslen : signL.length = 27 := by decide
  go_wp2_with fail
  go_loopw [15] (fun v wr => ∃ i : Nat, v = .int .i64 i ∧ i ≤ 27 ∧ Hid (firstS s = (signL.drop i).find? fun x => x.isPrefixOf s) ∧ Hid (Bq wr [.blk G (strVs signL) 9, .blk w.heap.size #[.int .i64 0, .string ⟨#[]⟩, .int .u64 0, .int .i64 0] 36, .base (fun _ => False) w])) (fun v _ => 27 - (intOf v).toNat)
  case atStart => exact ⟨0, rfl, by omega, HR0, HC⟩
  case round =>
    obtain ⟨i, rfl, hi, HR, HB⟩ := hrel
    clear HR0 HC
    by_cases hlt : i < 27
    · have x1 : (i : Int) < 27 := by omega
      have hil : i < signL.length := by omega
      obtain ⟨x, hx⟩ : ∃ x, signL[i]? = some x := ⟨_, List.getElem?_eq_getElem hil⟩
      have HX := Lib.hid (strVs_at hx)
      have hR2 : firstS s = if x.isPrefixOf s then some x else (signL.drop (i + 1)).find? fun x => x.isPrefixOf s := by
        rw [HR.out, List.drop_eq_getElem_cons hil, List.find?_cons]
        rw [List.getElem?_eq_getElem hil] at hx
        injection hx with hx
        rw [hx]
        cases x.isPrefixOf s <;> rfl
      have hpt := pre_take x s
      have hx3 : x.length ≤ 3 := by
        have h := List.all_eq_true.1 (show signL.all (fun x => decide (x.length ≤ 3)) = true by decide) x (List.mem_of_getElem? hx)
        simpa using h
      generalize hpb : x.isPrefixOf s = pb at hR2 hpt
      have HR2 := Lib.hid hR2
      have HPB := Lib.hid hpb
      clear hR2 hx HR hpb
      have sx : (ba x).size = x.length := ba_size x
      go_upto_region 26 with (fail)
      go_cut [102] (fun s102 wx => s102 = .bool pb ∧ Hid (Bq wx [.blk G (strVs signL) 9, .blk w.heap.size #[.int .i64 0, .string ⟨#[]⟩, .int .u64 0, .int .i64 0] 36, .base (fun _ => False) w]))
      case first =>
        by_cases hle : x.length ≤ s.length
        · have xle : (x.length : Int) ≤ (s.length : Int) := by omega
          have xq : (((ba s).extract 0 x.length).toList == (ba x).toList) = pb := by
            rw [hpt, extract_ba, ba_toList, ba_toList, List.drop_zero, Nat.sub_zero, BEq.comm]
          clear hpt
          have hxl : x.length ≤ (ba s).size := by omega
          cases pb with
          | true =>
            refine' wp_region_fix (by kernel_rfl) 22 [some 81, some 82, some 83, some 84, some 85, some 86, some 87, some 88, some 89, some 90, some 91, some 92, some 93, some 94, some 95, some 96, some 97, some 98, some 99, some 100, some 101, some 102] [_, _, _, _, _, _, _, _, _, _, _, _, _, _, _, _, _, _, _, _, _, _] [] (fun (_ : List Bool) (W : World) => Bq W [.blk G (strVs signL) 9, .blk w.heap.size #[.int .i64 0, .string ⟨#[]⟩, .int .u64 0, .int .i64 0] 36, .base (fun _ => False) w]) (by kernel_rfl) (by decide) (by kernel_rfl) (by decide) (by rfl) (by decide) (HB.out.dr) ?_ ?_
            rotate_left 22
            · refine all_cons 0 ?_ (all_cons 1 ?_ (all_cons 2 ?_ (all_cons 3 ?_ (all_cons 4 ?_ (all_cons 5 ?_ (all_cons 6 ?_ (all_cons 7 ?_ (all_cons 8 ?_ (all_cons 9 ?_ (all_cons 10 ?_ (all_cons 11 ?_ (all_cons 12 ?_ (all_cons 13 ?_ (all_cons 14 ?_ (all_cons 15 ?_ (all_cons 16 ?_ (all_cons 17 ?_ (all_cons 18 ?_ (all_cons 19 ?_ (all_cons 20 ?_ (all_cons 21 ?_ (all_done 22))))))))))))))))))))))
              · intro o ho fs W HFi HAf HJ A HA HZ K' HK
                have z0 : A.tmps[0]? = some _ := HZ.out 0 (by decide)
                clear HAf HA HZ
                cases ho
                go_simp
                exact HK.out _ HJ.out
              · intro o ho fs W HFi HAf HJ A HA HZ K' HK
                have f0 : fs 0 = true := by cases ho; exact HAf.out ⟨0, .data⟩ (by simp) rfl
                have s0 := HA.out 0 81 (by decide) f0 rfl
                simp only [List.getD_cons_zero] at s0
                clear HAf HA HZ f0
                cases ho
                go_simp
                exact HK.out _ HJ.out
              · intro o ho fs W HFi HAf HJ A HA HZ K' HK
                have z14 : A.tmps[14]? = some _ := HZ.out 14 (by decide)
                clear HAf HA HZ
                cases ho
                go_simp
                exact HK.out _ HJ.out
              · intro o ho fs W HFi HAf HJ A HA HZ K' HK
                have z15 : A.tmps[15]? = some _ := HZ.out 15 (by decide)
                clear HAf HA HZ
                cases ho
                go_simp
                exact HK.out _ HJ.out
              · intro o ho fs W HFi HAf HJ A HA HZ K' HK
                have f2 : fs 2 = true := by cases ho; exact HAf.out ⟨2, .data⟩ (by simp) rfl
                have s2 := HA.out 2 83 (by decide) f2 rfl
                simp only [List.getD_cons_succ, List.getD_cons_zero] at s2
                have f3 : fs 3 = true := by cases ho; exact HAf.out ⟨3, .data⟩ (by simp) rfl
                have s3 := HA.out 3 84 (by decide) f3 rfl
                simp only [List.getD_cons_succ, List.getD_cons_zero] at s3
                clear HAf HA HZ f2 f3
                cases ho
                go_simp
                exact HK.out _ HJ.out
              · intro o ho fs W HFi HAf HJ A HA HZ K' HK
                have f4 : fs 4 = true := by cases ho; exact HAf.out ⟨4, .data⟩ (by simp) rfl
                have s4 := HA.out 4 85 (by decide) f4 rfl
                simp only [List.getD_cons_succ, List.getD_cons_zero] at s4
                clear HAf HA HZ f4
                have c0 : W.cell? ⟨G, i, none⟩ = some (.string (ba x)) := (cells_of (HJ.out.blk 0 rfl) i).trans HX.out
                cases ho
                go_simp
                exact HK.out _ HJ.out
              · intro o ho fs W HFi HAf HJ A HA HZ K' HK
                have f5 : fs 5 = true := by cases ho; exact HAf.out ⟨5, .data⟩ (by simp) rfl
                have s5 := HA.out 5 86 (by decide) f5 rfl
                simp only [List.getD_cons_succ, List.getD_cons_zero] at s5
                clear HAf HA HZ f5
                cases ho
                go_simp
                exact HK.out _ HJ.out
              · intro o ho fs W HFi HAf HJ A HA HZ K' HK
                have f1 : fs 1 = true := by cases ho; exact HAf.out ⟨1, .data⟩ (by simp) rfl
                have s1 := HA.out 1 82 (by decide) f1 rfl
                simp only [List.getD_cons_succ, List.getD_cons_zero] at s1
                have f6 : fs 6 = true := by cases ho; exact HAf.out ⟨6, .data⟩ (by simp) rfl
                have s6 := HA.out 6 87 (by decide) f6 rfl
                simp only [List.getD_cons_succ, List.getD_cons_zero] at s6
                clear HAf HA HZ f1 f6
                cases ho
                go_simp
                exact HK.out _ HJ.out
              · intro o ho fs W HFi HAf HJ A HA HZ K' HK
                have f7 : fs 7 = true := by cases ho; exact HAf.out ⟨7, .data⟩ (by simp) rfl
                have s7 := HA.out 7 88 (by decide) f7 rfl
                simp only [List.getD_cons_succ, List.getD_cons_zero] at s7
                clear HAf HA HZ f7
                cases ho
                go_simp
                exact HK.out _ HJ.out
              · intro o ho fs W HFi HAf HJ A HA HZ K' HK
                have z0 : A.tmps[0]? = some _ := HZ.out 0 (by decide)
                have f8 : fs 8 = true := by cases ho; exact HAf.out ⟨8, .guard⟩ (by simp) rfl
                have s8 := HA.out 8 89 (by decide) f8 rfl
                simp only [List.getD_cons_succ, List.getD_cons_zero] at s8
                clear HAf HA HZ f8
                cases ho
                go_simp
                exact HK.out _ HJ.out
              · intro o ho fs W HFi HAf HJ A HA HZ K' HK
                have z14 : A.tmps[14]? = some _ := HZ.out 14 (by decide)
                have f8 : fs 8 = true := by cases ho; exact HAf.out ⟨8, .guard⟩ (by simp) rfl
                have s8 := HA.out 8 89 (by decide) f8 rfl
                simp only [List.getD_cons_succ, List.getD_cons_zero] at s8
                clear HAf HA HZ f8
                cases ho
                go_simp
                exact HK.out _ HJ.out
              · intro o ho fs W HFi HAf HJ A HA HZ K' HK
                have z15 : A.tmps[15]? = some _ := HZ.out 15 (by decide)
                have f8 : fs 8 = true := by cases ho; exact HAf.out ⟨8, .guard⟩ (by simp) rfl
                have s8 := HA.out 8 89 (by decide) f8 rfl
                simp only [List.getD_cons_succ, List.getD_cons_zero] at s8
                clear HAf HA HZ f8
                cases ho
                go_simp
                exact HK.out _ HJ.out
              · intro o ho fs W HFi HAf HJ A HA HZ K' HK
                have f10 : fs 10 = true := by cases ho; exact HAf.out ⟨10, .data⟩ (by simp) rfl
                have s10 := HA.out 10 91 (by decide) f10 rfl
                simp only [List.getD_cons_succ, List.getD_cons_zero] at s10
                have f11 : fs 11 = true := by cases ho; exact HAf.out ⟨11, .data⟩ (by simp) rfl
                have s11 := HA.out 11 92 (by decide) f11 rfl
                simp only [List.getD_cons_succ, List.getD_cons_zero] at s11
                have f8 : fs 8 = true := by cases ho; exact HAf.out ⟨8, .guard⟩ (by simp) rfl
                have s8 := HA.out 8 89 (by decide) f8 rfl
                simp only [List.getD_cons_succ, List.getD_cons_zero] at s8
                clear HAf HA HZ f10 f11 f8
                cases ho
                go_simp
                exact HK.out _ HJ.out
              · intro o ho fs W HFi HAf HJ A HA HZ K' HK
                have f12 : fs 12 = true := by cases ho; exact HAf.out ⟨12, .data⟩ (by simp) rfl
                have s12 := HA.out 12 93 (by decide) f12 rfl
                simp only [List.getD_cons_succ, List.getD_cons_zero] at s12
                have f8 : fs 8 = true := by cases ho; exact HAf.out ⟨8, .guard⟩ (by simp) rfl
                have s8 := HA.out 8 89 (by decide) f8 rfl
                simp only [List.getD_cons_succ, List.getD_cons_zero] at s8
                clear HAf HA HZ f12 f8
                have c0 : W.cell? ⟨G, i, none⟩ = some (.string (ba x)) := (cells_of (HJ.out.blk 0 rfl) i).trans HX.out
                cases ho
                go_simp
                exact HK.out _ HJ.out
              · intro o ho fs W HFi HAf HJ A HA HZ K' HK
                have f13 : fs 13 = true := by cases ho; exact HAf.out ⟨13, .data⟩ (by simp) rfl
                have s13 := HA.out 13 94 (by decide) f13 rfl
                simp only [List.getD_cons_succ, List.getD_cons_zero] at s13
                have f8 : fs 8 = true := by cases ho; exact HAf.out ⟨8, .guard⟩ (by simp) rfl
                have s8 := HA.out 8 89 (by decide) f8 rfl
                simp only [List.getD_cons_succ, List.getD_cons_zero] at s8
                clear HAf HA HZ f13 f8
                cases ho
                go_simp
                exact HK.out _ HJ.out
              · intro o ho fs W HFi HAf HJ A HA HZ K' HK
                have f9 : fs 9 = true := by cases ho; exact HAf.out ⟨9, .data⟩ (by simp) rfl
                have s9 := HA.out 9 90 (by decide) f9 rfl
                simp only [List.getD_cons_succ, List.getD_cons_zero] at s9
                have f14 : fs 14 = true := by cases ho; exact HAf.out ⟨14, .data⟩ (by simp) rfl
                have s14 := HA.out 14 95 (by decide) f14 rfl
                simp only [List.getD_cons_succ, List.getD_cons_zero] at s14
                have f8 : fs 8 = true := by cases ho; exact HAf.out ⟨8, .guard⟩ (by simp) rfl
                have s8 := HA.out 8 89 (by decide) f8 rfl
                simp only [List.getD_cons_succ, List.getD_cons_zero] at s8
                clear HAf HA HZ f9 f14 f8
                cases ho
                go_simp
                exact HK.out _ HJ.out
              · intro o ho fs W HFi HAf HJ A HA HZ K' HK
                have z14 : A.tmps[14]? = some _ := HZ.out 14 (by decide)
                have f8 : fs 8 = true := by cases ho; exact HAf.out ⟨8, .guard⟩ (by simp) rfl
                have s8 := HA.out 8 89 (by decide) f8 rfl
                simp only [List.getD_cons_succ, List.getD_cons_zero] at s8
                clear HAf HA HZ f8
                cases ho
                go_simp
                exact HK.out _ HJ.out
              · intro o ho fs W HFi HAf HJ A HA HZ K' HK
                have z15 : A.tmps[15]? = some _ := HZ.out 15 (by decide)
                have f8 : fs 8 = true := by cases ho; exact HAf.out ⟨8, .guard⟩ (by simp) rfl
                have s8 := HA.out 8 89 (by decide) f8 rfl
                simp only [List.getD_cons_succ, List.getD_cons_zero] at s8
                clear HAf HA HZ f8
                cases ho
                go_simp
                exact HK.out _ HJ.out
              · intro o ho fs W HFi HAf HJ A HA HZ K' HK
                have f16 : fs 16 = true := by cases ho; exact HAf.out ⟨16, .data⟩ (by simp) rfl
                have s16 := HA.out 16 97 (by decide) f16 rfl
                simp only [List.getD_cons_succ, List.getD_cons_zero] at s16
                have f17 : fs 17 = true := by cases ho; exact HAf.out ⟨17, .data⟩ (by simp) rfl
                have s17 := HA.out 17 98 (by decide) f17 rfl
                simp only [List.getD_cons_succ, List.getD_cons_zero] at s17
                have f8 : fs 8 = true := by cases ho; exact HAf.out ⟨8, .guard⟩ (by simp) rfl
                have s8 := HA.out 8 89 (by decide) f8 rfl
                simp only [List.getD_cons_succ, List.getD_cons_zero] at s8
                clear HAf HA HZ f16 f17 f8
                cases ho
                go_simp
                exact HK.out _ HJ.out
              · intro o ho fs W HFi HAf HJ A HA HZ K' HK
                have f18 : fs 18 = true := by cases ho; exact HAf.out ⟨18, .data⟩ (by simp) rfl
                have s18 := HA.out 18 99 (by decide) f18 rfl
                simp only [List.getD_cons_succ, List.getD_cons_zero] at s18
                have f8 : fs 8 = true := by cases ho; exact HAf.out ⟨8, .guard⟩ (by simp) rfl
                have s8 := HA.out 8 89 (by decide) f8 rfl
                simp only [List.getD_cons_succ, List.getD_cons_zero] at s8
                clear HAf HA HZ f18 f8
                have c0 : W.cell? ⟨G, i, none⟩ = some (.string (ba x)) := (cells_of (HJ.out.blk 0 rfl) i).trans HX.out
                cases ho
                go_simp
                exact HK.out _ HJ.out
              · intro o ho fs W HFi HAf HJ A HA HZ K' HK
                have f15 : fs 15 = true := by cases ho; exact HAf.out ⟨15, .data⟩ (by simp) rfl
                have s15 := HA.out 15 96 (by decide) f15 rfl
                simp only [List.getD_cons_succ, List.getD_cons_zero] at s15
                have f19 : fs 19 = true := by cases ho; exact HAf.out ⟨19, .data⟩ (by simp) rfl
                have s19 := HA.out 19 100 (by decide) f19 rfl
                simp only [List.getD_cons_succ, List.getD_cons_zero] at s19
                have f8 : fs 8 = true := by cases ho; exact HAf.out ⟨8, .guard⟩ (by simp) rfl
                have s8 := HA.out 8 89 (by decide) f8 rfl
                simp only [List.getD_cons_succ, List.getD_cons_zero] at s8
                clear HAf HA HZ f15 f19 f8
                cases ho
                go_simp
                exact HK.out _ HJ.out
              · intro o ho fs W HFi HAf HJ A HA HZ K' HK
                have f8 : fs 8 = true := by cases ho; exact HAf.out ⟨8, .data⟩ (by simp) rfl
                have s8 := HA.out 8 89 (by decide) f8 rfl
                simp only [List.getD_cons_succ, List.getD_cons_zero] at s8
                have f20 : fs 20 = true := by cases ho; exact HAf.out ⟨20, .data⟩ (by simp) rfl
                have s20 := HA.out 20 101 (by decide) f20 rfl
                simp only [List.getD_cons_succ, List.getD_cons_zero] at s20
                clear HAf HA HZ f8 f20
                cases ho
                go_simp
                exact HK.out _ HJ.out
            · intro W hJ
              simp only [canon, Act.put, List.getD_cons_succ, List.getD_cons_zero, List.drop_succ_cons, List.drop_zero, List.setIfInBounds_toArray, List.set_cons_zero, List.set_cons_succ]
              have HBW := Lib.hid hJ
              clear hJ
              simp only [wpList]
              refine (‹∀ (a' : Act) (w' : World), Met _ a' w' → _› _ _ ?_)
              go_meet
              exact ⟨rfl, HBW⟩
          | false =>
            refine' wp_region_fix (by kernel_rfl) 22 [some 81, some 82, some 83, some 84, some 85, some 86, some 87, some 88, some 89, some 90, some 91, some 92, some 93, some 94, some 95, some 96, some 97, some 98, some 99, some 100, some 101, some 102] [_, _, _, _, _, _, _, _, _, _, _, _, _, _, _, _, _, _, _, _, _, _] [] (fun (_ : List Bool) (W : World) => Bq W [.blk G (strVs signL) 9, .blk w.heap.size #[.int .i64 0, .string ⟨#[]⟩, .int .u64 0, .int .i64 0] 36, .base (fun _ => False) w]) (by kernel_rfl) (by decide) (by kernel_rfl) (by decide) (by rfl) (by decide) (HB.out.dr) ?_ ?_
            rotate_left 22
            · refine all_cons 0 ?_ (all_cons 1 ?_ (all_cons 2 ?_ (all_cons 3 ?_ (all_cons 4 ?_ (all_cons 5 ?_ (all_cons 6 ?_ (all_cons 7 ?_ (all_cons 8 ?_ (all_cons 9 ?_ (all_cons 10 ?_ (all_cons 11 ?_ (all_cons 12 ?_ (all_cons 13 ?_ (all_cons 14 ?_ (all_cons 15 ?_ (all_cons 16 ?_ (all_cons 17 ?_ (all_cons 18 ?_ (all_cons 19 ?_ (all_cons 20 ?_ (all_cons 21 ?_ (all_done 22))))))))))))))))))))))
              · intro o ho fs W HFi HAf HJ A HA HZ K' HK
                have z0 : A.tmps[0]? = some _ := HZ.out 0 (by decide)
                clear HAf HA HZ
                cases ho
                go_simp
                exact HK.out _ HJ.out
              · intro o ho fs W HFi HAf HJ A HA HZ K' HK
                have f0 : fs 0 = true := by cases ho; exact HAf.out ⟨0, .data⟩ (by simp) rfl
                have s0 := HA.out 0 81 (by decide) f0 rfl
                simp only [List.getD_cons_zero] at s0
                clear HAf HA HZ f0
                cases ho
                go_simp
                exact HK.out _ HJ.out
              · intro o ho fs W HFi HAf HJ A HA HZ K' HK
                have z14 : A.tmps[14]? = some _ := HZ.out 14 (by decide)
                clear HAf HA HZ
                cases ho
                go_simp
                exact HK.out _ HJ.out
              · intro o ho fs W HFi HAf HJ A HA HZ K' HK
                have z15 : A.tmps[15]? = some _ := HZ.out 15 (by decide)
                clear HAf HA HZ
                cases ho
                go_simp
                exact HK.out _ HJ.out
              · intro o ho fs W HFi HAf HJ A HA HZ K' HK
                have f2 : fs 2 = true := by cases ho; exact HAf.out ⟨2, .data⟩ (by simp) rfl
                have s2 := HA.out 2 83 (by decide) f2 rfl
                simp only [List.getD_cons_succ, List.getD_cons_zero] at s2
                have f3 : fs 3 = true := by cases ho; exact HAf.out ⟨3, .data⟩ (by simp) rfl
                have s3 := HA.out 3 84 (by decide) f3 rfl
                simp only [List.getD_cons_succ, List.getD_cons_zero] at s3
                clear HAf HA HZ f2 f3
                cases ho
                go_simp
                exact HK.out _ HJ.out
              · intro o ho fs W HFi HAf HJ A HA HZ K' HK
                have f4 : fs 4 = true := by cases ho; exact HAf.out ⟨4, .data⟩ (by simp) rfl
                have s4 := HA.out 4 85 (by decide) f4 rfl
                simp only [List.getD_cons_succ, List.getD_cons_zero] at s4
                clear HAf HA HZ f4
                have c0 : W.cell? ⟨G, i, none⟩ = some (.string (ba x)) := (cells_of (HJ.out.blk 0 rfl) i).trans HX.out
                cases ho
                go_simp
                exact HK.out _ HJ.out
              · intro o ho fs W HFi HAf HJ A HA HZ K' HK
                have f5 : fs 5 = true := by cases ho; exact HAf.out ⟨5, .data⟩ (by simp) rfl
                have s5 := HA.out 5 86 (by decide) f5 rfl
                simp only [List.getD_cons_succ, List.getD_cons_zero] at s5
                clear HAf HA HZ f5
                cases ho
                go_simp
                exact HK.out _ HJ.out
              · intro o ho fs W HFi HAf HJ A HA HZ K' HK
                have f1 : fs 1 = true := by cases ho; exact HAf.out ⟨1, .data⟩ (by simp) rfl
                have s1 := HA.out 1 82 (by decide) f1 rfl
                simp only [List.getD_cons_succ, List.getD_cons_zero] at s1
                have f6 : fs 6 = true := by cases ho; exact HAf.out ⟨6, .data⟩ (by simp) rfl
                have s6 := HA.out 6 87 (by decide) f6 rfl
                simp only [List.getD_cons_succ, List.getD_cons_zero] at s6
                clear HAf HA HZ f1 f6
                cases ho
                go_simp
                exact HK.out _ HJ.out
              · intro o ho fs W HFi HAf HJ A HA HZ K' HK
                have f7 : fs 7 = true := by cases ho; exact HAf.out ⟨7, .data⟩ (by simp) rfl
                have s7 := HA.out 7 88 (by decide) f7 rfl
                simp only [List.getD_cons_succ, List.getD_cons_zero] at s7
                clear HAf HA HZ f7
                cases ho
                go_simp
                exact HK.out _ HJ.out
              · intro o ho fs W HFi HAf HJ A HA HZ K' HK
                have z0 : A.tmps[0]? = some _ := HZ.out 0 (by decide)
                have f8 : fs 8 = true := by cases ho; exact HAf.out ⟨8, .guard⟩ (by simp) rfl
                have s8 := HA.out 8 89 (by decide) f8 rfl
                simp only [List.getD_cons_succ, List.getD_cons_zero] at s8
                clear HAf HA HZ f8
                cases ho
                go_simp
                exact HK.out _ HJ.out
              · intro o ho fs W HFi HAf HJ A HA HZ K' HK
                have z14 : A.tmps[14]? = some _ := HZ.out 14 (by decide)
                have f8 : fs 8 = true := by cases ho; exact HAf.out ⟨8, .guard⟩ (by simp) rfl
                have s8 := HA.out 8 89 (by decide) f8 rfl
                simp only [List.getD_cons_succ, List.getD_cons_zero] at s8
                clear HAf HA HZ f8
                cases ho
                go_simp
                exact HK.out _ HJ.out
              · intro o ho fs W HFi HAf HJ A HA HZ K' HK
                have z15 : A.tmps[15]? = some _ := HZ.out 15 (by decide)
                have f8 : fs 8 = true := by cases ho; exact HAf.out ⟨8, .guard⟩ (by simp) rfl
                have s8 := HA.out 8 89 (by decide) f8 rfl
                simp only [List.getD_cons_succ, List.getD_cons_zero] at s8
                clear HAf HA HZ f8
                cases ho
                go_simp
                exact HK.out _ HJ.out
              · intro o ho fs W HFi HAf HJ A HA HZ K' HK
                have f10 : fs 10 = true := by cases ho; exact HAf.out ⟨10, .data⟩ (by simp) rfl
                have s10 := HA.out 10 91 (by decide) f10 rfl
                simp only [List.getD_cons_succ, List.getD_cons_zero] at s10
                have f11 : fs 11 = true := by cases ho; exact HAf.out ⟨11, .data⟩ (by simp) rfl
                have s11 := HA.out 11 92 (by decide) f11 rfl
                simp only [List.getD_cons_succ, List.getD_cons_zero] at s11
                have f8 : fs 8 = true := by cases ho; exact HAf.out ⟨8, .guard⟩ (by simp) rfl
                have s8 := HA.out 8 89 (by decide) f8 rfl
                simp only [List.getD_cons_succ, List.getD_cons_zero] at s8
                clear HAf HA HZ f10 f11 f8
                cases ho
                go_simp
                exact HK.out _ HJ.out
              · intro o ho fs W HFi HAf HJ A HA HZ K' HK
                have f12 : fs 12 = true := by cases ho; exact HAf.out ⟨12, .data⟩ (by simp) rfl
                have s12 := HA.out 12 93 (by decide) f12 rfl
                simp only [List.getD_cons_succ, List.getD_cons_zero] at s12
                have f8 : fs 8 = true := by cases ho; exact HAf.out ⟨8, .guard⟩ (by simp) rfl
                have s8 := HA.out 8 89 (by decide) f8 rfl
                simp only [List.getD_cons_succ, List.getD_cons_zero] at s8
                clear HAf HA HZ f12 f8
                have c0 : W.cell? ⟨G, i, none⟩ = some (.string (ba x)) := (cells_of (HJ.out.blk 0 rfl) i).trans HX.out
                cases ho
                go_simp
                exact HK.out _ HJ.out
              · intro o ho fs W HFi HAf HJ A HA HZ K' HK
                have f13 : fs 13 = true := by cases ho; exact HAf.out ⟨13, .data⟩ (by simp) rfl
                have s13 := HA.out 13 94 (by decide) f13 rfl
                simp only [List.getD_cons_succ, List.getD_cons_zero] at s13
                have f8 : fs 8 = true := by cases ho; exact HAf.out ⟨8, .guard⟩ (by simp) rfl
                have s8 := HA.out 8 89 (by decide) f8 rfl
                simp only [List.getD_cons_succ, List.getD_cons_zero] at s8
                clear HAf HA HZ f13 f8
                cases ho
                go_simp
                exact HK.out _ HJ.out
              · intro o ho fs W HFi HAf HJ A HA HZ K' HK
                have f9 : fs 9 = true := by cases ho; exact HAf.out ⟨9, .data⟩ (by simp) rfl
                have s9 := HA.out 9 90 (by decide) f9 rfl
                simp only [List.getD_cons_succ, List.getD_cons_zero] at s9
                have f14 : fs 14 = true := by cases ho; exact HAf.out ⟨14, .data⟩ (by simp) rfl
                have s14 := HA.out 14 95 (by decide) f14 rfl
                simp only [List.getD_cons_succ, List.getD_cons_zero] at s14
                have f8 : fs 8 = true := by cases ho; exact HAf.out ⟨8, .guard⟩ (by simp) rfl
                have s8 := HA.out 8 89 (by decide) f8 rfl
                simp only [List.getD_cons_succ, List.getD_cons_zero] at s8
                clear HAf HA HZ f9 f14 f8
                cases ho
                go_simp
                exact HK.out _ HJ.out
              · intro o ho fs W HFi HAf HJ A HA HZ K' HK
                have z14 : A.tmps[14]? = some _ := HZ.out 14 (by decide)
                have f8 : fs 8 = true := by cases ho; exact HAf.out ⟨8, .guard⟩ (by simp) rfl
                have s8 := HA.out 8 89 (by decide) f8 rfl
                simp only [List.getD_cons_succ, List.getD_cons_zero] at s8
                clear HAf HA HZ f8
                cases ho
                go_simp
                exact HK.out _ HJ.out
              · intro o ho fs W HFi HAf HJ A HA HZ K' HK
                have z15 : A.tmps[15]? = some _ := HZ.out 15 (by decide)
                have f8 : fs 8 = true := by cases ho; exact HAf.out ⟨8, .guard⟩ (by simp) rfl
                have s8 := HA.out 8 89 (by decide) f8 rfl
                simp only [List.getD_cons_succ, List.getD_cons_zero] at s8
                clear HAf HA HZ f8
                cases ho
                go_simp
                exact HK.out _ HJ.out
              · intro o ho fs W HFi HAf HJ A HA HZ K' HK
                have f16 : fs 16 = true := by cases ho; exact HAf.out ⟨16, .data⟩ (by simp) rfl
                have s16 := HA.out 16 97 (by decide) f16 rfl
                simp only [List.getD_cons_succ, List.getD_cons_zero] at s16
                have f17 : fs 17 = true := by cases ho; exact HAf.out ⟨17, .data⟩ (by simp) rfl
                have s17 := HA.out 17 98 (by decide) f17 rfl
                simp only [List.getD_cons_succ, List.getD_cons_zero] at s17
                have f8 : fs 8 = true := by cases ho; exact HAf.out ⟨8, .guard⟩ (by simp) rfl
                have s8 := HA.out 8 89 (by decide) f8 rfl
                simp only [List.getD_cons_succ, List.getD_cons_zero] at s8
                clear HAf HA HZ f16 f17 f8
                cases ho
                go_simp
                exact HK.out _ HJ.out
              · intro o ho fs W HFi HAf HJ A HA HZ K' HK
                have f18 : fs 18 = true := by cases ho; exact HAf.out ⟨18, .data⟩ (by simp) rfl
                have s18 := HA.out 18 99 (by decide) f18 rfl
                simp only [List.getD_cons_succ, List.getD_cons_zero] at s18
                have f8 : fs 8 = true := by cases ho; exact HAf.out ⟨8, .guard⟩ (by simp) rfl
                have s8 := HA.out 8 89 (by decide) f8 rfl
                simp only [List.getD_cons_succ, List.getD_cons_zero] at s8
                clear HAf HA HZ f18 f8
                have c0 : W.cell? ⟨G, i, none⟩ = some (.string (ba x)) := (cells_of (HJ.out.blk 0 rfl) i).trans HX.out
                cases ho
                go_simp
                exact HK.out _ HJ.out
              · intro o ho fs W HFi HAf HJ A HA HZ K' HK
                have f15 : fs 15 = true := by cases ho; exact HAf.out ⟨15, .data⟩ (by simp) rfl
                have s15 := HA.out 15 96 (by decide) f15 rfl
                simp only [List.getD_cons_succ, List.getD_cons_zero] at s15
                have f19 : fs 19 = true := by cases ho; exact HAf.out ⟨19, .data⟩ (by simp) rfl
                have s19 := HA.out 19 100 (by decide) f19 rfl
                simp only [List.getD_cons_succ, List.getD_cons_zero] at s19
                have f8 : fs 8 = true := by cases ho; exact HAf.out ⟨8, .guard⟩ (by simp) rfl
                have s8 := HA.out 8 89 (by decide) f8 rfl
                simp only [List.getD_cons_succ, List.getD_cons_zero] at s8
                clear HAf HA HZ f15 f19 f8
                cases ho
                go_simp
                exact HK.out _ HJ.out
              · intro o ho fs W HFi HAf HJ A HA HZ K' HK
                have f8 : fs 8 = true := by cases ho; exact HAf.out ⟨8, .data⟩ (by simp) rfl
                have s8 := HA.out 8 89 (by decide) f8 rfl
                simp only [List.getD_cons_succ, List.getD_cons_zero] at s8
                have f20 : fs 20 = true := by cases ho; exact HAf.out ⟨20, .data⟩ (by simp) rfl
                have s20 := HA.out 20 101 (by decide) f20 rfl
                simp only [List.getD_cons_succ, List.getD_cons_zero] at s20
                clear HAf HA HZ f8 f20
                cases ho
                go_simp
                exact HK.out _ HJ.out
            · intro W hJ
              simp only [canon, Act.put, List.getD_cons_succ, List.getD_cons_zero, List.drop_succ_cons, List.drop_zero, List.setIfInBounds_toArray, List.set_cons_zero, List.set_cons_succ]
              have HBW := Lib.hid hJ
              clear hJ
              simp only [wpList]
              refine (‹∀ (a' : Act) (w' : World), Met _ a' w' → _› _ _ ?_)
              go_meet
              exact ⟨rfl, HBW⟩
        · have xle : ¬ (x.length : Int) ≤ (s.length : Int) := by omega
          obtain rfl : pb = false := by
            rw [hpt, beq_eq_false_iff_ne]
            intro h
            have := congrArg List.length h
            rw [List.length_take] at this; omega
          clear hpt
          refine' wp_region_fix (by kernel_rfl) 22 [some 81, some 82, some 83, some 84, some 85, some 86, some 87, some 88, some 89, some 90, some 91, some 92, some 93, some 94, some 95, some 96, some 97, some 98, some 99, some 100, some 101, some 102] [_, _, _, _, _, _, _, _, _, _, _, _, _, _, _, _, _, _, _, _, _, _] [] (fun (_ : List Bool) (W : World) => Bq W [.blk G (strVs signL) 9, .blk w.heap.size #[.int .i64 0, .string ⟨#[]⟩, .int .u64 0, .int .i64 0] 36, .base (fun _ => False) w]) (by kernel_rfl) (by decide) (by kernel_rfl) (by decide) (by rfl) (by decide) (HB.out.dr) ?_ ?_
          rotate_left 22
          · refine all_cons 0 ?_ (all_cons 1 ?_ (all_cons 2 ?_ (all_cons 3 ?_ (all_cons 4 ?_ (all_cons 5 ?_ (all_cons 6 ?_ (all_cons 7 ?_ (all_cons 8 ?_ (all_cons 9 ?_ (all_cons 10 ?_ (all_cons 11 ?_ (all_cons 12 ?_ (all_cons 13 ?_ (all_cons 14 ?_ (all_cons 15 ?_ (all_cons 16 ?_ (all_cons 17 ?_ (all_cons 18 ?_ (all_cons 19 ?_ (all_cons 20 ?_ (all_cons 21 ?_ (all_done 22))))))))))))))))))))))
            · intro o ho fs W HFi HAf HJ A HA HZ K' HK
              have z0 : A.tmps[0]? = some _ := HZ.out 0 (by decide)
              clear HAf HA HZ
              cases ho
              go_simp
              exact HK.out _ HJ.out
            · intro o ho fs W HFi HAf HJ A HA HZ K' HK
              have f0 : fs 0 = true := by cases ho; exact HAf.out ⟨0, .data⟩ (by simp) rfl
              have s0 := HA.out 0 81 (by decide) f0 rfl
              simp only [List.getD_cons_zero] at s0
              clear HAf HA HZ f0
              cases ho
              go_simp
              exact HK.out _ HJ.out
            · intro o ho fs W HFi HAf HJ A HA HZ K' HK
              have z14 : A.tmps[14]? = some _ := HZ.out 14 (by decide)
              clear HAf HA HZ
              cases ho
              go_simp
              exact HK.out _ HJ.out
            · intro o ho fs W HFi HAf HJ A HA HZ K' HK
              have z15 : A.tmps[15]? = some _ := HZ.out 15 (by decide)
              clear HAf HA HZ
              cases ho
              go_simp
              exact HK.out _ HJ.out
            · intro o ho fs W HFi HAf HJ A HA HZ K' HK
              have f2 : fs 2 = true := by cases ho; exact HAf.out ⟨2, .data⟩ (by simp) rfl
              have s2 := HA.out 2 83 (by decide) f2 rfl
              simp only [List.getD_cons_succ, List.getD_cons_zero] at s2
              have f3 : fs 3 = true := by cases ho; exact HAf.out ⟨3, .data⟩ (by simp) rfl
              have s3 := HA.out 3 84 (by decide) f3 rfl
              simp only [List.getD_cons_succ, List.getD_cons_zero] at s3
              clear HAf HA HZ f2 f3
              cases ho
              go_simp
              exact HK.out _ HJ.out
            · intro o ho fs W HFi HAf HJ A HA HZ K' HK
              have f4 : fs 4 = true := by cases ho; exact HAf.out ⟨4, .data⟩ (by simp) rfl
              have s4 := HA.out 4 85 (by decide) f4 rfl
              simp only [List.getD_cons_succ, List.getD_cons_zero] at s4
              clear HAf HA HZ f4
              have c0 : W.cell? ⟨G, i, none⟩ = some (.string (ba x)) := (cells_of (HJ.out.blk 0 rfl) i).trans HX.out
              cases ho
              go_simp
              exact HK.out _ HJ.out
            · intro o ho fs W HFi HAf HJ A HA HZ K' HK
              have f5 : fs 5 = true := by cases ho; exact HAf.out ⟨5, .data⟩ (by simp) rfl
              have s5 := HA.out 5 86 (by decide) f5 rfl
              simp only [List.getD_cons_succ, List.getD_cons_zero] at s5
              clear HAf HA HZ f5
              cases ho
              go_simp
              exact HK.out _ HJ.out
            · intro o ho fs W HFi HAf HJ A HA HZ K' HK
              have f1 : fs 1 = true := by cases ho; exact HAf.out ⟨1, .data⟩ (by simp) rfl
              have s1 := HA.out 1 82 (by decide) f1 rfl
              simp only [List.getD_cons_succ, List.getD_cons_zero] at s1
              have f6 : fs 6 = true := by cases ho; exact HAf.out ⟨6, .data⟩ (by simp) rfl
              have s6 := HA.out 6 87 (by decide) f6 rfl
              simp only [List.getD_cons_succ, List.getD_cons_zero] at s6
              clear HAf HA HZ f1 f6
              cases ho
              go_simp
              exact HK.out _ HJ.out
            · intro o ho fs W HFi HAf HJ A HA HZ K' HK
              have f7 : fs 7 = true := by cases ho; exact HAf.out ⟨7, .data⟩ (by simp) rfl
              have s7 := HA.out 7 88 (by decide) f7 rfl
              simp only [List.getD_cons_succ, List.getD_cons_zero] at s7
              clear HAf HA HZ f7
              cases ho
              go_simp
              exact HK.out _ HJ.out
            · intro o ho fs W HFi HAf HJ A HA HZ K' HK
              have z0 : A.tmps[0]? = some _ := HZ.out 0 (by decide)
              have f8 : fs 8 = true := by cases ho; exact HAf.out ⟨8, .guard⟩ (by simp) rfl
              have s8 := HA.out 8 89 (by decide) f8 rfl
              simp only [List.getD_cons_succ, List.getD_cons_zero] at s8
              clear HAf HA HZ f8
              cases ho
              go_simp
              exact HK.out _ HJ.out
            · intro o ho fs W HFi HAf HJ A HA HZ K' HK
              have z14 : A.tmps[14]? = some _ := HZ.out 14 (by decide)
              have f8 : fs 8 = true := by cases ho; exact HAf.out ⟨8, .guard⟩ (by simp) rfl
              have s8 := HA.out 8 89 (by decide) f8 rfl
              simp only [List.getD_cons_succ, List.getD_cons_zero] at s8
              clear HAf HA HZ f8
              cases ho
              go_simp
              exact HK.out _ HJ.out
            · intro o ho fs W HFi HAf HJ A HA HZ K' HK
              have z15 : A.tmps[15]? = some _ := HZ.out 15 (by decide)
              have f8 : fs 8 = true := by cases ho; exact HAf.out ⟨8, .guard⟩ (by simp) rfl
              have s8 := HA.out 8 89 (by decide) f8 rfl
              simp only [List.getD_cons_succ, List.getD_cons_zero] at s8
              clear HAf HA HZ f8
              cases ho
              go_simp
              exact HK.out _ HJ.out
            · intro o ho fs W HFi HAf HJ A HA HZ K' HK
              have f10 : fs 10 = true := by cases ho; exact HAf.out ⟨10, .data⟩ (by simp) rfl
              have s10 := HA.out 10 91 (by decide) f10 rfl
              simp only [List.getD_cons_succ, List.getD_cons_zero] at s10
              have f11 : fs 11 = true := by cases ho; exact HAf.out ⟨11, .data⟩ (by simp) rfl
              have s11 := HA.out 11 92 (by decide) f11 rfl
              simp only [List.getD_cons_succ, List.getD_cons_zero] at s11
              have f8 : fs 8 = true := by cases ho; exact HAf.out ⟨8, .guard⟩ (by simp) rfl
              have s8 := HA.out 8 89 (by decide) f8 rfl
              simp only [List.getD_cons_succ, List.getD_cons_zero] at s8
              clear HAf HA HZ f10 f11 f8
              cases ho
              go_simp
              exact HK.out _ HJ.out
            · intro o ho fs W HFi HAf HJ A HA HZ K' HK
              have f12 : fs 12 = true := by cases ho; exact HAf.out ⟨12, .data⟩ (by simp) rfl
              have s12 := HA.out 12 93 (by decide) f12 rfl
              simp only [List.getD_cons_succ, List.getD_cons_zero] at s12
              have f8 : fs 8 = true := by cases ho; exact HAf.out ⟨8, .guard⟩ (by simp) rfl
              have s8 := HA.out 8 89 (by decide) f8 rfl
              simp only [List.getD_cons_succ, List.getD_cons_zero] at s8
              clear HAf HA HZ f12 f8
              have c0 : W.cell? ⟨G, i, none⟩ = some (.string (ba x)) := (cells_of (HJ.out.blk 0 rfl) i).trans HX.out
              cases ho
              go_simp
              exact HK.out _ HJ.out
            · intro o ho fs W HFi HAf HJ A HA HZ K' HK
              have f13 : fs 13 = true := by cases ho; exact HAf.out ⟨13, .data⟩ (by simp) rfl
              have s13 := HA.out 13 94 (by decide) f13 rfl
              simp only [List.getD_cons_succ, List.getD_cons_zero] at s13
              have f8 : fs 8 = true := by cases ho; exact HAf.out ⟨8, .guard⟩ (by simp) rfl
              have s8 := HA.out 8 89 (by decide) f8 rfl
              simp only [List.getD_cons_succ, List.getD_cons_zero] at s8
              clear HAf HA HZ f13 f8
              cases ho
              go_simp
              exact HK.out _ HJ.out
            · intro o ho fs W HFi HAf HJ A HA HZ K' HK
              have f9 : fs 9 = true := by cases ho; exact HAf.out ⟨9, .data⟩ (by simp) rfl
              have s9 := HA.out 9 90 (by decide) f9 rfl
              simp only [List.getD_cons_succ, List.getD_cons_zero] at s9
              have f14 : fs 14 = true := by cases ho; exact HAf.out ⟨14, .data⟩ (by simp) rfl
              have s14 := HA.out 14 95 (by decide) f14 rfl
              simp only [List.getD_cons_succ, List.getD_cons_zero] at s14
              have f8 : fs 8 = true := by cases ho; exact HAf.out ⟨8, .guard⟩ (by simp) rfl
              have s8 := HA.out 8 89 (by decide) f8 rfl
              simp only [List.getD_cons_succ, List.getD_cons_zero] at s8
              clear HAf HA HZ f9 f14 f8
              cases ho
              go_simp
              exact HK.out _ HJ.out
            · intro o ho fs W HFi HAf HJ A HA HZ K' HK
              have z14 : A.tmps[14]? = some _ := HZ.out 14 (by decide)
              have f8 : fs 8 = true := by cases ho; exact HAf.out ⟨8, .guard⟩ (by simp) rfl
              have s8 := HA.out 8 89 (by decide) f8 rfl
              simp only [List.getD_cons_succ, List.getD_cons_zero] at s8
              clear HAf HA HZ f8
              cases ho
              go_simp
              exact HK.out _ HJ.out
            · intro o ho fs W HFi HAf HJ A HA HZ K' HK
              have z15 : A.tmps[15]? = some _ := HZ.out 15 (by decide)
              have f8 : fs 8 = true := by cases ho; exact HAf.out ⟨8, .guard⟩ (by simp) rfl
              have s8 := HA.out 8 89 (by decide) f8 rfl
              simp only [List.getD_cons_succ, List.getD_cons_zero] at s8
              clear HAf HA HZ f8
              cases ho
              go_simp
              exact HK.out _ HJ.out
            · intro o ho fs W HFi HAf HJ A HA HZ K' HK
              have f16 : fs 16 = true := by cases ho; exact HAf.out ⟨16, .data⟩ (by simp) rfl
              have s16 := HA.out 16 97 (by decide) f16 rfl
              simp only [List.getD_cons_succ, List.getD_cons_zero] at s16
              have f17 : fs 17 = true := by cases ho; exact HAf.out ⟨17, .data⟩ (by simp) rfl
              have s17 := HA.out 17 98 (by decide) f17 rfl
              simp only [List.getD_cons_succ, List.getD_cons_zero] at s17
              have f8 : fs 8 = true := by cases ho; exact HAf.out ⟨8, .guard⟩ (by simp) rfl
              have s8 := HA.out 8 89 (by decide) f8 rfl
              simp only [List.getD_cons_succ, List.getD_cons_zero] at s8
              clear HAf HA HZ f16 f17 f8
              cases ho
              go_simp
              exact HK.out _ HJ.out
            · intro o ho fs W HFi HAf HJ A HA HZ K' HK
              have f18 : fs 18 = true := by cases ho; exact HAf.out ⟨18, .data⟩ (by simp) rfl
              have s18 := HA.out 18 99 (by decide) f18 rfl
              simp only [List.getD_cons_succ, List.getD_cons_zero] at s18
              have f8 : fs 8 = true := by cases ho; exact HAf.out ⟨8, .guard⟩ (by simp) rfl
              have s8 := HA.out 8 89 (by decide) f8 rfl
              simp only [List.getD_cons_succ, List.getD_cons_zero] at s8
              clear HAf HA HZ f18 f8
              have c0 : W.cell? ⟨G, i, none⟩ = some (.string (ba x)) := (cells_of (HJ.out.blk 0 rfl) i).trans HX.out
              cases ho
              go_simp
              exact HK.out _ HJ.out
            · intro o ho fs W HFi HAf HJ A HA HZ K' HK
              have f15 : fs 15 = true := by cases ho; exact HAf.out ⟨15, .data⟩ (by simp) rfl
              have s15 := HA.out 15 96 (by decide) f15 rfl
              simp only [List.getD_cons_succ, List.getD_cons_zero] at s15
              have f19 : fs 19 = true := by cases ho; exact HAf.out ⟨19, .data⟩ (by simp) rfl
              have s19 := HA.out 19 100 (by decide) f19 rfl
              simp only [List.getD_cons_succ, List.getD_cons_zero] at s19
              have f8 : fs 8 = true := by cases ho; exact HAf.out ⟨8, .guard⟩ (by simp) rfl
              have s8 := HA.out 8 89 (by decide) f8 rfl
              simp only [List.getD_cons_succ, List.getD_cons_zero] at s8
              clear HAf HA HZ f15 f19 f8
              cases ho
              go_simp
              exact HK.out _ HJ.out
            · intro o ho fs W HFi HAf HJ A HA HZ K' HK
              have f8 : fs 8 = true := by cases ho; exact HAf.out ⟨8, .data⟩ (by simp) rfl
              have s8 := HA.out 8 89 (by decide) f8 rfl
              simp only [List.getD_cons_succ, List.getD_cons_zero] at s8
              have f20 : fs 20 = true := by cases ho; exact HAf.out ⟨20, .data⟩ (by simp) rfl
              have s20 := HA.out 20 101 (by decide) f20 rfl
              simp only [List.getD_cons_succ, List.getD_cons_zero] at s20
              clear HAf HA HZ f8 f20
              cases ho
              go_simp
              exact HK.out _ HJ.out
          · intro W hJ
            simp only [canon, Act.put, List.getD_cons_succ, List.getD_cons_zero, List.drop_succ_cons, List.drop_zero, List.setIfInBounds_toArray, List.set_cons_zero, List.set_cons_succ]
            have HBW := Lib.hid hJ
            clear hJ
            simp only [wpList]
            refine (‹∀ (a' : Act) (w' : World), Met _ a' w' → _› _ _ ?_)
            go_meet
            exact ⟨rfl, HBW⟩
      case rest =>
        obtain ⟨rfl, HB⟩ := hcut
        clear hpt
        cases pb with
        | true =>
          have hF := HR2.out
          rw [if_pos rfl] at hF
          obtain ⟨hs0, hsx, hsl2⟩ := sign_found hF
          have HTR2 := Lib.hid (show tr = .tok 6 (s.take (signN s)) 0 (s.drop (signN s)) from by rw [← HTR.out, if_neg hs0])
          have HSX := Lib.hid hsx
          have HSL := Lib.hid hsl2
          clear hF hs0 hsx hsl2
          go_upto_region 27 with (fail)
          have HJ0 := Lib.hid (show Bq wc.drew [.blk w.heap.size ((if ([false] : List Bool) = [true] then #[.int .i64 6, .string (ba x), .int .u64 0, .int .i64 0] else #[.int .i64 0, .string ⟨#[]⟩, .int .u64 0, .int .i64 0])) 36, .blk G (strVs signL) 9, .base (fun _ => False) w] from by rw [if_neg (by decide)]; exact ⟨HB.out.dr.get 1 rfl, HB.out.dr.get 0 rfl, HB.out.dr.get 2 rfl, trivial⟩)
          refine' wp_region_fix (by kernel_rfl) 13 [some 103, some 104, some 105, some 106, some 107, some 108, some 109, some 110, some 111, some 112, none, some 3, some 4] [_, _, _, _, _, _, _, _, _, _, undef, _, _] [10] (fun (fs : List Bool) (W : World) => Bq W [.blk w.heap.size ((if fs = [true] then #[.int .i64 6, .string (ba x), .int .u64 0, .int .i64 0] else #[.int .i64 0, .string ⟨#[]⟩, .int .u64 0, .int .i64 0])) 36, .blk G (strVs signL) 9, .base (fun _ => False) w]) (by kernel_rfl) (by decide) (by kernel_rfl) (by decide) (by rfl) (by decide) (HJ0.out) ?_ ?_
          rotate_left 12
          · refine all_cons 0 ?_ (all_cons 1 ?_ (all_cons 2 ?_ (all_cons 3 ?_ (all_cons 4 ?_ (all_cons 5 ?_ (all_cons 6 ?_ (all_cons 7 ?_ (all_cons 8 ?_ (all_cons 9 ?_ (all_cons 10 ?_ (all_cons 11 ?_ (all_cons 12 ?_ (all_done 13)))))))))))))
            · intro o ho fs W HFi HAf HJ A HA HZ K' HK
              have z14 : A.tmps[14]? = some _ := HZ.out 14 (by decide)
              clear HAf HA HZ
              cases ho
              go_simp
              exact HK.out _ (by rw [upd_map fs (by decide)]; exact HJ.out)
            · intro o ho fs W HFi HAf HJ A HA HZ K' HK
              have z15 : A.tmps[15]? = some _ := HZ.out 15 (by decide)
              clear HAf HA HZ
              cases ho
              go_simp
              exact HK.out _ (by rw [upd_map fs (by decide)]; exact HJ.out)
            · intro o ho fs W HFi HAf HJ A HA HZ K' HK
              have f0 : fs 0 = true := by cases ho; exact HAf.out ⟨0, .data⟩ (by simp) rfl
              have s0 := HA.out 0 103 (by decide) f0 rfl
              simp only [List.getD_cons_zero] at s0
              have f1 : fs 1 = true := by cases ho; exact HAf.out ⟨1, .data⟩ (by simp) rfl
              have s1 := HA.out 1 104 (by decide) f1 rfl
              simp only [List.getD_cons_succ, List.getD_cons_zero] at s1
              clear HAf HA HZ f0 f1
              cases ho
              go_simp
              exact HK.out _ (by rw [upd_map fs (by decide)]; exact HJ.out)
            · intro o ho fs W HFi HAf HJ A HA HZ K' HK
              have f2 : fs 2 = true := by cases ho; exact HAf.out ⟨2, .data⟩ (by simp) rfl
              have s2 := HA.out 2 105 (by decide) f2 rfl
              simp only [List.getD_cons_succ, List.getD_cons_zero] at s2
              clear HAf HA HZ f2
              have c0 : W.cell? ⟨G, i, none⟩ = some (.string (ba x)) := (cells_of (HJ.out.blk 1 rfl) i).trans HX.out
              cases ho
              go_simp
              exact HK.out _ (by rw [upd_map fs (by decide)]; exact HJ.out)
            · intro o ho fs W HFi HAf HJ A HA HZ K' HK
              have f3 : fs 3 = true := by cases ho; exact HAf.out ⟨3, .data⟩ (by simp) rfl
              have s3 := HA.out 3 106 (by decide) f3 rfl
              simp only [List.getD_cons_succ, List.getD_cons_zero] at s3
              clear HAf HA HZ f3
              cases ho
              go_simp
              exact HK.out _ (by rw [upd_map fs (by decide)]; exact HJ.out)
            · intro o ho fs W HFi HAf HJ A HA HZ K' HK
              have z14 : A.tmps[14]? = some _ := HZ.out 14 (by decide)
              clear HAf HA HZ
              cases ho
              go_simp
              exact HK.out _ (by rw [upd_map fs (by decide)]; exact HJ.out)
            · intro o ho fs W HFi HAf HJ A HA HZ K' HK
              have z15 : A.tmps[15]? = some _ := HZ.out 15 (by decide)
              clear HAf HA HZ
              cases ho
              go_simp
              exact HK.out _ (by rw [upd_map fs (by decide)]; exact HJ.out)
            · intro o ho fs W HFi HAf HJ A HA HZ K' HK
              have f5 : fs 5 = true := by cases ho; exact HAf.out ⟨5, .data⟩ (by simp) rfl
              have s5 := HA.out 5 108 (by decide) f5 rfl
              simp only [List.getD_cons_succ, List.getD_cons_zero] at s5
              have f6 : fs 6 = true := by cases ho; exact HAf.out ⟨6, .data⟩ (by simp) rfl
              have s6 := HA.out 6 109 (by decide) f6 rfl
              simp only [List.getD_cons_succ, List.getD_cons_zero] at s6
              clear HAf HA HZ f5 f6
              cases ho
              go_simp
              exact HK.out _ (by rw [upd_map fs (by decide)]; exact HJ.out)
            · intro o ho fs W HFi HAf HJ A HA HZ K' HK
              have f7 : fs 7 = true := by cases ho; exact HAf.out ⟨7, .data⟩ (by simp) rfl
              have s7 := HA.out 7 110 (by decide) f7 rfl
              simp only [List.getD_cons_succ, List.getD_cons_zero] at s7
              clear HAf HA HZ f7
              have c0 : W.cell? ⟨G, i, none⟩ = some (.string (ba x)) := (cells_of (HJ.out.blk 1 rfl) i).trans HX.out
              cases ho
              go_simp
              exact HK.out _ (by rw [upd_map fs (by decide)]; exact HJ.out)
            · intro o ho fs W HFi HAf HJ A HA HZ K' HK
              have f8 : fs 8 = true := by cases ho; exact HAf.out ⟨8, .data⟩ (by simp) rfl
              have s8 := HA.out 8 111 (by decide) f8 rfl
              simp only [List.getD_cons_succ, List.getD_cons_zero] at s8
              clear HAf HA HZ f8
              cases ho
              go_simp
              exact HK.out _ (by rw [upd_map fs (by decide)]; exact HJ.out)
            · intro o ho fs W HFi HAf HJ A HA HZ K' HK
              have z2 : A.tmps[2]? = some _ := HZ.out 2 (by decide)
              have f4 : fs 4 = true := by cases ho; exact HAf.out ⟨4, .data⟩ (by simp) rfl
              have s4 := HA.out 4 107 (by decide) f4 rfl
              simp only [List.getD_cons_succ, List.getD_cons_zero] at s4
              clear HAf HA HZ
              cases ho
              have hfi := HFi.out
              have hBW : Bq W [.blk w.heap.size (#[.int .i64 0, .string ⟨#[]⟩, .int .u64 0, .int .i64 0]) 36, .blk G (strVs signL) 9, .base (fun _ => False) w] := by have h := HJ.out; rw [List.map_singleton, hfi, if_neg (by decide)] at h; exact h
              have HBW := Lib.hid hBW
              obtain ⟨d0, d1, d2, d3, fd⟩ := four_cells (HBW.out.blk 0 rfl)
              clear hBW hfi
              go_simp
              exact HK.out _ (by rw [List.map_singleton, upd_at, if_pos rfl]; exact HBW.out.put 0 rfl (by refine ⟨?_, ?_, trivial⟩ <;> (simp only [Fq.apart]; first | omega | (intro b h1 h2; omega) | (intro b h1; omega) | (intro b h1 h2 h3; omega))) (.int .i64 6) (.string (ba x)) (.int .u64 0) (.int .i64 0))
            · intro o ho fs W HFi HAf HJ A HA HZ K' HK
              have f9 : fs 9 = true := by cases ho; exact HAf.out ⟨9, .data⟩ (by simp) rfl
              have s9 := HA.out 9 112 (by decide) f9 rfl
              simp only [List.getD_cons_succ, List.getD_cons_zero] at s9
              clear HAf HA HZ f9
              cases ho
              go_simp
              exact HK.out _ (by rw [upd_map fs (by decide)]; exact HJ.out)
            · intro o ho fs W HFi HAf HJ A HA HZ K' HK
              clear HAf HA HZ
              cases ho
              go_simp
              exact HK.out _ (by rw [upd_map fs (by decide)]; exact HJ.out)
          · intro W hJ
            simp only [canon, Act.put, List.getD_cons_succ, List.getD_cons_zero, List.drop_succ_cons, List.drop_zero, List.setIfInBounds_toArray, List.set_cons_zero, List.set_cons_succ]
            have HE := Lib.hid (show Bq W [.blk w.heap.size (#[.int .i64 6, .string (ba x), .int .u64 0, .int .i64 0]) 36, .blk G (strVs signL) 9, .base (fun _ => False) w] from by have h := hJ; rw [List.map_singleton, if_pos rfl] at h; exact h)
            clear hJ
            simp only [wpList]
            go_wp2_with fail
            refine bodyPost_ret (results_tok3 rfl _ _ _ _ _ _ _ rfl (HE.out.blk 0 rfl)) rfl ?_
            refine ⟨?_, (HE.out.base 2 rfl).below (Nat.le_refl _) (fun _ _ h => h)⟩
            rw [HTR2.out]
            show Ending.returned (Value.tuple #[.agg #[.int .i64 6, .string (ba x), .int .u64 0, .int .i64 0], .int .i64 (x.length : Int), .int .i64 0]) = Ending.returned (Value.tuple #[.agg #[.int .i64 6, .string (ba (s.take (signN s))), .int .u64 0, .int .i64 0], .int .i64 ((s.length - (s.drop (signN s)).length : Nat) : Int), .int .i64 0])
            have hsn := HSL.out
            have hle := signN_le s
            rw [← HSX.out, List.length_drop, show s.length - (s.length - signN s) = x.length by omega]
        | false =>
          have HR3 := Lib.hid (show firstS s = (signL.drop (i + 1)).find? fun x => x.isPrefixOf s from by rw [HR2.out]; rfl)
          go_wp2_with fail
          go_roundw
          case rel => exact ⟨i + 1, by go_num, by omega, HR3, HB⟩
          case measure => simp only [intOf]; omega
    · have x1 : ¬ (i : Int) < 27 := by omega
      have hF : firstS s = none := by rw [HR.out, List.drop_eq_nil_of_le (by omega)]; rfl
      have HTR2 := Lib.hid (show tr = .bad 90 from by rw [← HTR.out, if_pos (sign_none hF)])
      clear hF
      obtain ⟨d0, d1, d2, d3, fd⟩ := four_cells (HB.out.blk 1 rfl)
      go_wp2_with fail
      have HE := Lib.hid (HB.out.put 1 rfl (by refine ⟨?_, ?_, trivial⟩ <;> (simp only [Fq.apart]; first | omega | (intro b h1 h2; omega) | (intro b h1; omega) | (intro b h1 h2 h3; omega))) (.int .i64 0) (.string ⟨#[]⟩) (.int .u64 0) (.int .i64 0))
      refine bodyPost_ret (results_tok3 rfl _ _ _ _ _ _ _ rfl (HE.out.blk 0 rfl)) rfl ?_
      exact ⟨by rw [HTR2.out]; rfl, (HE.out.base 2 rfl).below (Nat.le_refl _) (fun _ _ h => h)⟩
theorem token_r (s : List UInt8) (w : World) (hl : s.length ≤ 1000000) (h0 : s ≠ []) :
    Calls Tryz.prog 27 #[.string (ba s)] w fun e w' => e = .returned (refV s (tokT s)) ∧ Below w.heap.size w w' := by
  obtain ⟨c, r, hs⟩ : ∃ c r, s = c :: r := by cases s with | nil => exact absurd rfl h0 | cons c r => exact ⟨c, r, rfl⟩
  have ht : tokT s = if headC c then nameT c s else if numC c then numT s else if c.toNat = 34 then quoE (quoT (s.drop 1)) else if signN s = 0 then .bad 90 else .tok 6 (s.take (signN s)) 0 (s.drop (signN s)) := by
    subst hs
    rw [tokT, List.drop_one, List.tail_cons]
    cases quoT r <;> rfl
  rw [ht]
  cases hh : headC c with
  | true =>
    rw [if_pos rfl, nameT]
    have hh2 := hh
    rw [headC_iff] at hh
    by_cases hw : 32 < (s.takeWhile namC).length
    · simp only [if_pos hw]
      by_cases h1 : 97 ≤ c.toNat
      · exact rtok_small_long c r s w hs hl h1 (by omega) hw
      · by_cases h2 : c.toNat ≤ 90
        · exact rtok_cap_long c r s w hs hl (by omega) h2 hw
        · exact rtok_und_long c r s w hs hl (by omega) hw
    · simp only [if_neg hw]
      cases hr : resB (s.takeWhile namC) with
      | true =>
        rw [if_pos rfl]
        by_cases h1 : 97 ≤ c.toNat
        · exact rtok_small_res c r s w hs hl h1 (by omega) hw hr
        · by_cases h2 : c.toNat ≤ 90
          · exact rtok_cap_res c r s w hs hl (by omega) h2 hw hr
          · exact rtok_und_res c r s w hs hl (by omega) hw hr
      | false =>
        rw [if_neg Bool.false_ne_true]
        by_cases h1 : 97 ≤ c.toNat
        · rw [show smallC c = true by rw [smallC_iff]; omega, if_pos rfl]
          exact rtok_small_no c r s w hs hl h1 (by omega) hw hr
        · rw [show smallC c = false by rw [← Bool.not_eq_true, smallC_iff]; omega, if_neg Bool.false_ne_true]
          by_cases h2 : c.toNat ≤ 90
          · exact rtok_cap_no c r s w hs hl (by omega) h2 hw hr
          · exact rtok_und_no c r s w hs hl (by omega) hw hr
  | false =>
    rw [if_neg Bool.false_ne_true]
    cases hn : numC c with
    | true =>
      rw [if_pos rfl, numT]
      rw [numC_iff] at hn
      cases hk : numOk (s.takeWhile numC) (s.dropWhile numC) with
      | true => simp only [if_pos]; exact rtok_num_ok c r s w hs hl hn.1 hn.2 hk
      | false => simp only [Bool.false_eq_true, if_false]; exact rtok_num_bad c r s w hs hl hn.1 hn.2 hk
    | false =>
      rw [if_neg Bool.false_ne_true]
      by_cases h34 : c.toNat = 34
      · rw [if_pos h34]; exact rtok_quo c r s w hs hl h34
      · rw [if_neg h34]; exact rtok_sign c r s w hs hl hh hn h34
end Go.Proofs.YtmcnhggpmlhgeaaGreatDoor
