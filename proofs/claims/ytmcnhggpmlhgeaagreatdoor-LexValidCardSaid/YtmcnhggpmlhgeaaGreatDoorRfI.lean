/-
  Walks: the reference: Same.
-/
import Derived.Test.YtmcnhggpmlhgeaaGreatDoorLd
import Derived.Test.YtmcnhggpmlhgeaaGreatDoorFix
import Derived.Test.YtmcnhggpmlhgeaaGreatDoorLc
import Derived.Deep.DeepCutAuto
namespace Go.Proofs.YtmcnhggpmlhgeaaGreatDoor
open Go.RowKit
set_option maxRecDepth 100000 in
set_option maxHeartbeats 16000000 in
theorem Same_r (B : Nat) (a b : List Tok) (va vb : Value) (w : World) (ha : RdK w B va a) (hb : RdK w B vb b) (hB : B ≤ w.heap.size) :
    Calls Tryz.prog 23 #[va, vb] w fun e w' => e = .returned (.bool (sameL a b)) ∧ Below w.heap.size w w' := by
  obtain ⟨aa, ca, rfl, hca, hla, ha⟩ := ha
  obtain ⟨ab, cb, rfl, hcb, hlb, hb⟩ := hb
  have HA0 := Lib.hid ha
  have HB0 := Lib.hid hb
  clear ha hb
  by_cases hn : a.length = b.length
  · have HS := Lib.hid (show sameL (a.drop 0) (b.drop 0) = sameL a b from rfl)
    generalize sameL a b = r at HS ⊢
    have HN := Lib.hid hn
    rw [← hn]
    clear hn
    go_enter Tryz.func23, Tryz.ntmps23
    go_wp2_with fail
    go_loopw [5] (fun v wr => ∃ i : Nat, v = .int .i64 i ∧ i ≤ a.length ∧ Hid (sameL (a.drop i) (b.drop i) = r) ∧ Hid (Below w.heap.size w wr)) (fun v _ => a.length - (intOf v).toNat)
    case atStart => exact ⟨0, rfl, Nat.zero_le _, HS, Lib.hid (Below.refl _ _)⟩
    case round =>
      obtain ⟨i, rfl, hi, HS, HW⟩ := hrel
      have hz := HW.out.size
      by_cases hlt : i < a.length
      · have x1 : (i : Int) < (a.length : Int) := by omega
        have hne : a ≠ [] := by intro h; subst h; simp at hlt
        have hltb : i < b.length := by have := HN.out; omega
        have hneb : b ≠ [] := by intro h; subst h; simp at hltb
        obtain ⟨b1, o1, rfl, hb1, hc1⟩ := HA0.out hne
        obtain ⟨b2, o2, rfl, hb2, hc2⟩ := HB0.out hneb
        obtain ⟨x, hx⟩ : ∃ x, a[i] = x := ⟨_, rfl⟩
        obtain ⟨y, hy⟩ : ∃ y, b[i] = y := ⟨_, rfl⟩
        have hst := sameL_step hlt hltb
        rw [hx, hy] at hst
        have HT := Lib.hid (HS.out.symm.trans hst)
        obtain ⟨kx, tx, nx, px⟩ := x
        obtain ⟨ky, ty, ny, py⟩ := y
        have HCx := Lib.hid fun W (hb : Below wr.heap.size wr W) => tok_cells (w := W) (fun j u hj => ((cellsB hb (Nat.le_refl _) b1 _ (by omega)).trans (cellsB HW.out hB b1 _ hb1)).trans (hc1 j u hj)) hlt hx
        have HCy := Lib.hid fun W (hb : Below wr.heap.size wr W) => tok_cells (w := W) (fun j u hj => ((cellsB hb (Nat.le_refl _) b2 _ (by omega)).trans (cellsB HW.out hB b2 _ hb2)).trans (hc2 j u hj)) hltb hy
        clear hst hx hy hc1 hc2 hne hneb
        have hs : sameTk ⟨kx, tx, nx, px⟩ ⟨ky, ty, ny, py⟩ = (decide (kx = ky) && decide (tx = ty) && decide (nx = ny)) := rfl
        generalize sameTk ⟨kx, tx, nx, px⟩ ⟨ky, ty, ny, py⟩ = S at hs HT
        go_upto_region 6 with (fail)
        go_cut [53] (fun s53 wx => s53 = .bool (!S) ∧ Hid (Below wr.heap.size wr wx))
        case first =>
          by_cases h1 : kx = ky
          · subst h1
            by_cases h2 : tx = ty
            · subst h2
              by_cases h3 : nx = ny
              · subst h3
                have HR := Lib.hid (show S = true from by rw [hs]; simp)
                clear hs
                refine' wp_region_fix (by kernel_rfl) 37 [some 17, some 18, some 19, some 20, some 21, some 22, some 23, some 24, some 25, some 26, some 27, some 28, some 29, some 30, some 31, some 32, some 33, some 34, some 35, some 36, some 37, some 38, some 39, some 40, some 41, some 42, some 43, some 44, some 45, some 46, some 47, some 48, some 49, some 50, some 51, some 52, some 53] [_, _, _, _, _, _, _, _, _, _, _, _, _, _, _, _, _, _, _, _, _, _, _, _, _, _, _, _, _, _, _, _, _, _, _, _, _] [] (fun (_ : List Bool) (W : World) => Below wr.heap.size wr W) (by kernel_rfl) (by decide) (by kernel_rfl) (by decide) (by rfl) (by decide) ((Below.refl _ _).drew) ?_ ?_
                rotate_left 37
                · refine all_cons 0 ?_ (all_cons 1 ?_ (all_cons 2 ?_ (all_cons 3 ?_ (all_cons 4 ?_ (all_cons 5 ?_ (all_cons 6 ?_ (all_cons 7 ?_ (all_cons 8 ?_ (all_cons 9 ?_ (all_cons 10 ?_ (all_cons 11 ?_ (all_cons 12 ?_ (all_cons 13 ?_ (all_cons 14 ?_ (all_cons 15 ?_ (all_cons 16 ?_ (all_cons 17 ?_ (all_cons 18 ?_ (all_cons 19 ?_ (all_cons 20 ?_ (all_cons 21 ?_ (all_cons 22 ?_ (all_cons 23 ?_ (all_cons 24 ?_ (all_cons 25 ?_ (all_cons 26 ?_ (all_cons 27 ?_ (all_cons 28 ?_ (all_cons 29 ?_ (all_cons 30 ?_ (all_cons 31 ?_ (all_cons 32 ?_ (all_cons 33 ?_ (all_cons 34 ?_ (all_cons 35 ?_ (all_cons 36 ?_ (all_done 37)))))))))))))))))))))))))))))))))))))
                  · intro o ho fs W HFi HAf HJ A HA HZ K' HK
                    have z0 : A.tmps[0]? = some _ := HZ.out 0 (by decide)
                    clear HAf HA HZ
                    cases ho
                    go_simp
                    exact HK.out _ HJ.out
                  · intro o ho fs W HFi HAf HJ A HA HZ K' HK
                    have z5 : A.tmps[5]? = some _ := HZ.out 5 (by decide)
                    clear HAf HA HZ
                    cases ho
                    go_simp
                    exact HK.out _ HJ.out
                  · intro o ho fs W HFi HAf HJ A HA HZ K' HK
                    have f0 : fs 0 = true := by cases ho; exact HAf.out ⟨0, .data⟩ (by simp) rfl
                    have s0 := HA.out 0 17 (by decide) f0 rfl
                    simp only [List.getD_cons_zero] at s0
                    have f1 : fs 1 = true := by cases ho; exact HAf.out ⟨1, .data⟩ (by simp) rfl
                    have s1 := HA.out 1 18 (by decide) f1 rfl
                    simp only [List.getD_cons_succ, List.getD_cons_zero] at s1
                    clear HAf HA HZ f0 f1
                    cases ho
                    go_simp
                    exact HK.out _ HJ.out
                  · intro o ho fs W HFi HAf HJ A HA HZ K' HK
                    have f2 : fs 2 = true := by cases ho; exact HAf.out ⟨2, .data⟩ (by simp) rfl
                    have s2 := HA.out 2 19 (by decide) f2 rfl
                    simp only [List.getD_cons_succ, List.getD_cons_zero] at s2
                    clear HAf HA HZ f2
                    cases ho
                    go_simp
                    exact HK.out _ HJ.out
                  · intro o ho fs W HFi HAf HJ A HA HZ K' HK
                    have f3 : fs 3 = true := by cases ho; exact HAf.out ⟨3, .data⟩ (by simp) rfl
                    have s3 := HA.out 3 20 (by decide) f3 rfl
                    simp only [List.getD_cons_succ, List.getD_cons_zero] at s3
                    clear HAf HA HZ f3
                    obtain ⟨c0, c1, c2, c3⟩ := HCx.out W HJ.out
                    obtain ⟨d0, d1, d2, d3⟩ := HCy.out W HJ.out
                    cases ho
                    go_simp
                    exact HK.out _ HJ.out
                  · intro o ho fs W HFi HAf HJ A HA HZ K' HK
                    have z1 : A.tmps[1]? = some _ := HZ.out 1 (by decide)
                    clear HAf HA HZ
                    cases ho
                    go_simp
                    exact HK.out _ HJ.out
                  · intro o ho fs W HFi HAf HJ A HA HZ K' HK
                    have z5 : A.tmps[5]? = some _ := HZ.out 5 (by decide)
                    clear HAf HA HZ
                    cases ho
                    go_simp
                    exact HK.out _ HJ.out
                  · intro o ho fs W HFi HAf HJ A HA HZ K' HK
                    have f5 : fs 5 = true := by cases ho; exact HAf.out ⟨5, .data⟩ (by simp) rfl
                    have s5 := HA.out 5 22 (by decide) f5 rfl
                    simp only [List.getD_cons_succ, List.getD_cons_zero] at s5
                    have f6 : fs 6 = true := by cases ho; exact HAf.out ⟨6, .data⟩ (by simp) rfl
                    have s6 := HA.out 6 23 (by decide) f6 rfl
                    simp only [List.getD_cons_succ, List.getD_cons_zero] at s6
                    clear HAf HA HZ f5 f6
                    cases ho
                    go_simp
                    exact HK.out _ HJ.out
                  · intro o ho fs W HFi HAf HJ A HA HZ K' HK
                    have f7 : fs 7 = true := by cases ho; exact HAf.out ⟨7, .data⟩ (by simp) rfl
                    have s7 := HA.out 7 24 (by decide) f7 rfl
                    simp only [List.getD_cons_succ, List.getD_cons_zero] at s7
                    clear HAf HA HZ f7
                    cases ho
                    go_simp
                    exact HK.out _ HJ.out
                  · intro o ho fs W HFi HAf HJ A HA HZ K' HK
                    have f8 : fs 8 = true := by cases ho; exact HAf.out ⟨8, .data⟩ (by simp) rfl
                    have s8 := HA.out 8 25 (by decide) f8 rfl
                    simp only [List.getD_cons_succ, List.getD_cons_zero] at s8
                    clear HAf HA HZ f8
                    obtain ⟨c0, c1, c2, c3⟩ := HCx.out W HJ.out
                    obtain ⟨d0, d1, d2, d3⟩ := HCy.out W HJ.out
                    cases ho
                    go_simp
                    exact HK.out _ HJ.out
                  · intro o ho fs W HFi HAf HJ A HA HZ K' HK
                    have f4 : fs 4 = true := by cases ho; exact HAf.out ⟨4, .data⟩ (by simp) rfl
                    have s4 := HA.out 4 21 (by decide) f4 rfl
                    simp only [List.getD_cons_succ, List.getD_cons_zero] at s4
                    have f9 : fs 9 = true := by cases ho; exact HAf.out ⟨9, .data⟩ (by simp) rfl
                    have s9 := HA.out 9 26 (by decide) f9 rfl
                    simp only [List.getD_cons_succ, List.getD_cons_zero] at s9
                    clear HAf HA HZ f4 f9
                    cases ho
                    go_simp
                    exact HK.out _ HJ.out
                  · intro o ho fs W HFi HAf HJ A HA HZ K' HK
                    have f10 : fs 10 = true := by cases ho; exact HAf.out ⟨10, .data⟩ (by simp) rfl
                    have s10 := HA.out 10 27 (by decide) f10 rfl
                    simp only [List.getD_cons_succ, List.getD_cons_zero] at s10
                    clear HAf HA HZ f10
                    cases ho
                    go_simp
                    exact HK.out _ HJ.out
                  · intro o ho fs W HFi HAf HJ A HA HZ K' HK
                    have z0 : A.tmps[0]? = some _ := HZ.out 0 (by decide)
                    have f11 : fs 11 = true := by cases ho; exact HAf.out ⟨11, .guard⟩ (by simp) rfl
                    have s11 := HA.out 11 28 (by decide) f11 rfl
                    simp only [List.getD_cons_succ, List.getD_cons_zero] at s11
                    clear HAf HA HZ f11
                    cases ho
                    go_simp
                    exact HK.out _ HJ.out
                  · intro o ho fs W HFi HAf HJ A HA HZ K' HK
                    have z5 : A.tmps[5]? = some _ := HZ.out 5 (by decide)
                    have f11 : fs 11 = true := by cases ho; exact HAf.out ⟨11, .guard⟩ (by simp) rfl
                    have s11 := HA.out 11 28 (by decide) f11 rfl
                    simp only [List.getD_cons_succ, List.getD_cons_zero] at s11
                    clear HAf HA HZ f11
                    cases ho
                    go_simp
                    exact HK.out _ HJ.out
                  · intro o ho fs W HFi HAf HJ A HA HZ K' HK
                    have f12 : fs 12 = true := by cases ho; exact HAf.out ⟨12, .data⟩ (by simp) rfl
                    have s12 := HA.out 12 29 (by decide) f12 rfl
                    simp only [List.getD_cons_succ, List.getD_cons_zero] at s12
                    have f13 : fs 13 = true := by cases ho; exact HAf.out ⟨13, .data⟩ (by simp) rfl
                    have s13 := HA.out 13 30 (by decide) f13 rfl
                    simp only [List.getD_cons_succ, List.getD_cons_zero] at s13
                    have f11 : fs 11 = true := by cases ho; exact HAf.out ⟨11, .guard⟩ (by simp) rfl
                    have s11 := HA.out 11 28 (by decide) f11 rfl
                    simp only [List.getD_cons_succ, List.getD_cons_zero] at s11
                    clear HAf HA HZ f12 f13 f11
                    cases ho
                    go_simp
                    exact HK.out _ HJ.out
                  · intro o ho fs W HFi HAf HJ A HA HZ K' HK
                    have f14 : fs 14 = true := by cases ho; exact HAf.out ⟨14, .data⟩ (by simp) rfl
                    have s14 := HA.out 14 31 (by decide) f14 rfl
                    simp only [List.getD_cons_succ, List.getD_cons_zero] at s14
                    have f11 : fs 11 = true := by cases ho; exact HAf.out ⟨11, .guard⟩ (by simp) rfl
                    have s11 := HA.out 11 28 (by decide) f11 rfl
                    simp only [List.getD_cons_succ, List.getD_cons_zero] at s11
                    clear HAf HA HZ f14 f11
                    cases ho
                    go_simp
                    exact HK.out _ HJ.out
                  · intro o ho fs W HFi HAf HJ A HA HZ K' HK
                    have f15 : fs 15 = true := by cases ho; exact HAf.out ⟨15, .data⟩ (by simp) rfl
                    have s15 := HA.out 15 32 (by decide) f15 rfl
                    simp only [List.getD_cons_succ, List.getD_cons_zero] at s15
                    have f11 : fs 11 = true := by cases ho; exact HAf.out ⟨11, .guard⟩ (by simp) rfl
                    have s11 := HA.out 11 28 (by decide) f11 rfl
                    simp only [List.getD_cons_succ, List.getD_cons_zero] at s11
                    clear HAf HA HZ f15 f11
                    obtain ⟨c0, c1, c2, c3⟩ := HCx.out W HJ.out
                    obtain ⟨d0, d1, d2, d3⟩ := HCy.out W HJ.out
                    cases ho
                    go_simp
                    exact HK.out _ HJ.out
                  · intro o ho fs W HFi HAf HJ A HA HZ K' HK
                    have z1 : A.tmps[1]? = some _ := HZ.out 1 (by decide)
                    have f11 : fs 11 = true := by cases ho; exact HAf.out ⟨11, .guard⟩ (by simp) rfl
                    have s11 := HA.out 11 28 (by decide) f11 rfl
                    simp only [List.getD_cons_succ, List.getD_cons_zero] at s11
                    clear HAf HA HZ f11
                    cases ho
                    go_simp
                    exact HK.out _ HJ.out
                  · intro o ho fs W HFi HAf HJ A HA HZ K' HK
                    have z5 : A.tmps[5]? = some _ := HZ.out 5 (by decide)
                    have f11 : fs 11 = true := by cases ho; exact HAf.out ⟨11, .guard⟩ (by simp) rfl
                    have s11 := HA.out 11 28 (by decide) f11 rfl
                    simp only [List.getD_cons_succ, List.getD_cons_zero] at s11
                    clear HAf HA HZ f11
                    cases ho
                    go_simp
                    exact HK.out _ HJ.out
                  · intro o ho fs W HFi HAf HJ A HA HZ K' HK
                    have f17 : fs 17 = true := by cases ho; exact HAf.out ⟨17, .data⟩ (by simp) rfl
                    have s17 := HA.out 17 34 (by decide) f17 rfl
                    simp only [List.getD_cons_succ, List.getD_cons_zero] at s17
                    have f18 : fs 18 = true := by cases ho; exact HAf.out ⟨18, .data⟩ (by simp) rfl
                    have s18 := HA.out 18 35 (by decide) f18 rfl
                    simp only [List.getD_cons_succ, List.getD_cons_zero] at s18
                    have f11 : fs 11 = true := by cases ho; exact HAf.out ⟨11, .guard⟩ (by simp) rfl
                    have s11 := HA.out 11 28 (by decide) f11 rfl
                    simp only [List.getD_cons_succ, List.getD_cons_zero] at s11
                    clear HAf HA HZ f17 f18 f11
                    cases ho
                    go_simp
                    exact HK.out _ HJ.out
                  · intro o ho fs W HFi HAf HJ A HA HZ K' HK
                    have f19 : fs 19 = true := by cases ho; exact HAf.out ⟨19, .data⟩ (by simp) rfl
                    have s19 := HA.out 19 36 (by decide) f19 rfl
                    simp only [List.getD_cons_succ, List.getD_cons_zero] at s19
                    have f11 : fs 11 = true := by cases ho; exact HAf.out ⟨11, .guard⟩ (by simp) rfl
                    have s11 := HA.out 11 28 (by decide) f11 rfl
                    simp only [List.getD_cons_succ, List.getD_cons_zero] at s11
                    clear HAf HA HZ f19 f11
                    cases ho
                    go_simp
                    exact HK.out _ HJ.out
                  · intro o ho fs W HFi HAf HJ A HA HZ K' HK
                    have f20 : fs 20 = true := by cases ho; exact HAf.out ⟨20, .data⟩ (by simp) rfl
                    have s20 := HA.out 20 37 (by decide) f20 rfl
                    simp only [List.getD_cons_succ, List.getD_cons_zero] at s20
                    have f11 : fs 11 = true := by cases ho; exact HAf.out ⟨11, .guard⟩ (by simp) rfl
                    have s11 := HA.out 11 28 (by decide) f11 rfl
                    simp only [List.getD_cons_succ, List.getD_cons_zero] at s11
                    clear HAf HA HZ f20 f11
                    obtain ⟨c0, c1, c2, c3⟩ := HCx.out W HJ.out
                    obtain ⟨d0, d1, d2, d3⟩ := HCy.out W HJ.out
                    cases ho
                    go_simp
                    exact HK.out _ HJ.out
                  · intro o ho fs W HFi HAf HJ A HA HZ K' HK
                    have f16 : fs 16 = true := by cases ho; exact HAf.out ⟨16, .data⟩ (by simp) rfl
                    have s16 := HA.out 16 33 (by decide) f16 rfl
                    simp only [List.getD_cons_succ, List.getD_cons_zero] at s16
                    have f21 : fs 21 = true := by cases ho; exact HAf.out ⟨21, .data⟩ (by simp) rfl
                    have s21 := HA.out 21 38 (by decide) f21 rfl
                    simp only [List.getD_cons_succ, List.getD_cons_zero] at s21
                    have f11 : fs 11 = true := by cases ho; exact HAf.out ⟨11, .guard⟩ (by simp) rfl
                    have s11 := HA.out 11 28 (by decide) f11 rfl
                    simp only [List.getD_cons_succ, List.getD_cons_zero] at s11
                    clear HAf HA HZ f16 f21 f11
                    cases ho
                    go_simp
                    exact HK.out _ HJ.out
                  · intro o ho fs W HFi HAf HJ A HA HZ K' HK
                    have f11 : fs 11 = true := by cases ho; exact HAf.out ⟨11, .data⟩ (by simp) rfl
                    have s11 := HA.out 11 28 (by decide) f11 rfl
                    simp only [List.getD_cons_succ, List.getD_cons_zero] at s11
                    have f22 : fs 22 = true := by cases ho; exact HAf.out ⟨22, .data⟩ (by simp) rfl
                    have s22 := HA.out 22 39 (by decide) f22 rfl
                    simp only [List.getD_cons_succ, List.getD_cons_zero] at s22
                    clear HAf HA HZ f11 f22
                    cases ho
                    go_simp
                    exact HK.out _ HJ.out
                  · intro o ho fs W HFi HAf HJ A HA HZ K' HK
                    have f23 : fs 23 = true := by cases ho; exact HAf.out ⟨23, .data⟩ (by simp) rfl
                    have s23 := HA.out 23 40 (by decide) f23 rfl
                    simp only [List.getD_cons_succ, List.getD_cons_zero] at s23
                    clear HAf HA HZ f23
                    cases ho
                    go_simp
                    exact HK.out _ HJ.out
                  · intro o ho fs W HFi HAf HJ A HA HZ K' HK
                    have z0 : A.tmps[0]? = some _ := HZ.out 0 (by decide)
                    have f24 : fs 24 = true := by cases ho; exact HAf.out ⟨24, .guard⟩ (by simp) rfl
                    have s24 := HA.out 24 41 (by decide) f24 rfl
                    simp only [List.getD_cons_succ, List.getD_cons_zero] at s24
                    clear HAf HA HZ f24
                    cases ho
                    go_simp
                    exact HK.out _ HJ.out
                  · intro o ho fs W HFi HAf HJ A HA HZ K' HK
                    have z5 : A.tmps[5]? = some _ := HZ.out 5 (by decide)
                    have f24 : fs 24 = true := by cases ho; exact HAf.out ⟨24, .guard⟩ (by simp) rfl
                    have s24 := HA.out 24 41 (by decide) f24 rfl
                    simp only [List.getD_cons_succ, List.getD_cons_zero] at s24
                    clear HAf HA HZ f24
                    cases ho
                    go_simp
                    exact HK.out _ HJ.out
                  · intro o ho fs W HFi HAf HJ A HA HZ K' HK
                    have f25 : fs 25 = true := by cases ho; exact HAf.out ⟨25, .data⟩ (by simp) rfl
                    have s25 := HA.out 25 42 (by decide) f25 rfl
                    simp only [List.getD_cons_succ, List.getD_cons_zero] at s25
                    have f26 : fs 26 = true := by cases ho; exact HAf.out ⟨26, .data⟩ (by simp) rfl
                    have s26 := HA.out 26 43 (by decide) f26 rfl
                    simp only [List.getD_cons_succ, List.getD_cons_zero] at s26
                    have f24 : fs 24 = true := by cases ho; exact HAf.out ⟨24, .guard⟩ (by simp) rfl
                    have s24 := HA.out 24 41 (by decide) f24 rfl
                    simp only [List.getD_cons_succ, List.getD_cons_zero] at s24
                    clear HAf HA HZ f25 f26 f24
                    cases ho
                    go_simp
                    exact HK.out _ HJ.out
                  · intro o ho fs W HFi HAf HJ A HA HZ K' HK
                    have f27 : fs 27 = true := by cases ho; exact HAf.out ⟨27, .data⟩ (by simp) rfl
                    have s27 := HA.out 27 44 (by decide) f27 rfl
                    simp only [List.getD_cons_succ, List.getD_cons_zero] at s27
                    have f24 : fs 24 = true := by cases ho; exact HAf.out ⟨24, .guard⟩ (by simp) rfl
                    have s24 := HA.out 24 41 (by decide) f24 rfl
                    simp only [List.getD_cons_succ, List.getD_cons_zero] at s24
                    clear HAf HA HZ f27 f24
                    cases ho
                    go_simp
                    exact HK.out _ HJ.out
                  · intro o ho fs W HFi HAf HJ A HA HZ K' HK
                    have f28 : fs 28 = true := by cases ho; exact HAf.out ⟨28, .data⟩ (by simp) rfl
                    have s28 := HA.out 28 45 (by decide) f28 rfl
                    simp only [List.getD_cons_succ, List.getD_cons_zero] at s28
                    have f24 : fs 24 = true := by cases ho; exact HAf.out ⟨24, .guard⟩ (by simp) rfl
                    have s24 := HA.out 24 41 (by decide) f24 rfl
                    simp only [List.getD_cons_succ, List.getD_cons_zero] at s24
                    clear HAf HA HZ f28 f24
                    obtain ⟨c0, c1, c2, c3⟩ := HCx.out W HJ.out
                    obtain ⟨d0, d1, d2, d3⟩ := HCy.out W HJ.out
                    cases ho
                    go_simp
                    exact HK.out _ HJ.out
                  · intro o ho fs W HFi HAf HJ A HA HZ K' HK
                    have z1 : A.tmps[1]? = some _ := HZ.out 1 (by decide)
                    have f24 : fs 24 = true := by cases ho; exact HAf.out ⟨24, .guard⟩ (by simp) rfl
                    have s24 := HA.out 24 41 (by decide) f24 rfl
                    simp only [List.getD_cons_succ, List.getD_cons_zero] at s24
                    clear HAf HA HZ f24
                    cases ho
                    go_simp
                    exact HK.out _ HJ.out
                  · intro o ho fs W HFi HAf HJ A HA HZ K' HK
                    have z5 : A.tmps[5]? = some _ := HZ.out 5 (by decide)
                    have f24 : fs 24 = true := by cases ho; exact HAf.out ⟨24, .guard⟩ (by simp) rfl
                    have s24 := HA.out 24 41 (by decide) f24 rfl
                    simp only [List.getD_cons_succ, List.getD_cons_zero] at s24
                    clear HAf HA HZ f24
                    cases ho
                    go_simp
                    exact HK.out _ HJ.out
                  · intro o ho fs W HFi HAf HJ A HA HZ K' HK
                    have f30 : fs 30 = true := by cases ho; exact HAf.out ⟨30, .data⟩ (by simp) rfl
                    have s30 := HA.out 30 47 (by decide) f30 rfl
                    simp only [List.getD_cons_succ, List.getD_cons_zero] at s30
                    have f31 : fs 31 = true := by cases ho; exact HAf.out ⟨31, .data⟩ (by simp) rfl
                    have s31 := HA.out 31 48 (by decide) f31 rfl
                    simp only [List.getD_cons_succ, List.getD_cons_zero] at s31
                    have f24 : fs 24 = true := by cases ho; exact HAf.out ⟨24, .guard⟩ (by simp) rfl
                    have s24 := HA.out 24 41 (by decide) f24 rfl
                    simp only [List.getD_cons_succ, List.getD_cons_zero] at s24
                    clear HAf HA HZ f30 f31 f24
                    cases ho
                    go_simp
                    exact HK.out _ HJ.out
                  · intro o ho fs W HFi HAf HJ A HA HZ K' HK
                    have f32 : fs 32 = true := by cases ho; exact HAf.out ⟨32, .data⟩ (by simp) rfl
                    have s32 := HA.out 32 49 (by decide) f32 rfl
                    simp only [List.getD_cons_succ, List.getD_cons_zero] at s32
                    have f24 : fs 24 = true := by cases ho; exact HAf.out ⟨24, .guard⟩ (by simp) rfl
                    have s24 := HA.out 24 41 (by decide) f24 rfl
                    simp only [List.getD_cons_succ, List.getD_cons_zero] at s24
                    clear HAf HA HZ f32 f24
                    cases ho
                    go_simp
                    exact HK.out _ HJ.out
                  · intro o ho fs W HFi HAf HJ A HA HZ K' HK
                    have f33 : fs 33 = true := by cases ho; exact HAf.out ⟨33, .data⟩ (by simp) rfl
                    have s33 := HA.out 33 50 (by decide) f33 rfl
                    simp only [List.getD_cons_succ, List.getD_cons_zero] at s33
                    have f24 : fs 24 = true := by cases ho; exact HAf.out ⟨24, .guard⟩ (by simp) rfl
                    have s24 := HA.out 24 41 (by decide) f24 rfl
                    simp only [List.getD_cons_succ, List.getD_cons_zero] at s24
                    clear HAf HA HZ f33 f24
                    obtain ⟨c0, c1, c2, c3⟩ := HCx.out W HJ.out
                    obtain ⟨d0, d1, d2, d3⟩ := HCy.out W HJ.out
                    cases ho
                    go_simp
                    exact HK.out _ HJ.out
                  · intro o ho fs W HFi HAf HJ A HA HZ K' HK
                    have f29 : fs 29 = true := by cases ho; exact HAf.out ⟨29, .data⟩ (by simp) rfl
                    have s29 := HA.out 29 46 (by decide) f29 rfl
                    simp only [List.getD_cons_succ, List.getD_cons_zero] at s29
                    have f34 : fs 34 = true := by cases ho; exact HAf.out ⟨34, .data⟩ (by simp) rfl
                    have s34 := HA.out 34 51 (by decide) f34 rfl
                    simp only [List.getD_cons_succ, List.getD_cons_zero] at s34
                    have f24 : fs 24 = true := by cases ho; exact HAf.out ⟨24, .guard⟩ (by simp) rfl
                    have s24 := HA.out 24 41 (by decide) f24 rfl
                    simp only [List.getD_cons_succ, List.getD_cons_zero] at s24
                    clear HAf HA HZ f29 f34 f24
                    cases ho
                    go_simp
                    exact HK.out _ HJ.out
                  · intro o ho fs W HFi HAf HJ A HA HZ K' HK
                    have f24 : fs 24 = true := by cases ho; exact HAf.out ⟨24, .data⟩ (by simp) rfl
                    have s24 := HA.out 24 41 (by decide) f24 rfl
                    simp only [List.getD_cons_succ, List.getD_cons_zero] at s24
                    have f35 : fs 35 = true := by cases ho; exact HAf.out ⟨35, .data⟩ (by simp) rfl
                    have s35 := HA.out 35 52 (by decide) f35 rfl
                    simp only [List.getD_cons_succ, List.getD_cons_zero] at s35
                    clear HAf HA HZ f24 f35
                    cases ho
                    go_simp
                    exact HK.out _ HJ.out
                · intro W hJ
                  simp only [canon, Act.put, List.getD_cons_succ, List.getD_cons_zero, List.drop_succ_cons, List.drop_zero, List.setIfInBounds_toArray, List.set_cons_zero, List.set_cons_succ]
                  have HBW := Lib.hid hJ
                  clear hJ
                  simp only [wpList]
                  refine (‹∀ (a' : Act) (w' : World), Met _ a' w' → _› _ _ ?_)
                  go_meet
                  exact ⟨by rw [HR.out]; rfl, HBW⟩
              · have HR := Lib.hid (show S = false from by rw [hs]; simp [h3])
                have X3 := Lib.hid (show ((nx : Int) != (ny : Int)) = !false from by simp; omega)
                clear hs h3
                refine' wp_region_fix (by kernel_rfl) 37 [some 17, some 18, some 19, some 20, some 21, some 22, some 23, some 24, some 25, some 26, some 27, some 28, some 29, some 30, some 31, some 32, some 33, some 34, some 35, some 36, some 37, some 38, some 39, some 40, some 41, some 42, some 43, some 44, some 45, some 46, some 47, some 48, some 49, some 50, some 51, some 52, some 53] [_, _, _, _, _, _, _, _, _, _, _, _, _, _, _, _, _, _, _, _, _, _, _, _, _, _, _, _, _, _, _, _, _, _, _, _, _] [] (fun (_ : List Bool) (W : World) => Below wr.heap.size wr W) (by kernel_rfl) (by decide) (by kernel_rfl) (by decide) (by rfl) (by decide) ((Below.refl _ _).drew) ?_ ?_
                rotate_left 37
                · refine all_cons 0 ?_ (all_cons 1 ?_ (all_cons 2 ?_ (all_cons 3 ?_ (all_cons 4 ?_ (all_cons 5 ?_ (all_cons 6 ?_ (all_cons 7 ?_ (all_cons 8 ?_ (all_cons 9 ?_ (all_cons 10 ?_ (all_cons 11 ?_ (all_cons 12 ?_ (all_cons 13 ?_ (all_cons 14 ?_ (all_cons 15 ?_ (all_cons 16 ?_ (all_cons 17 ?_ (all_cons 18 ?_ (all_cons 19 ?_ (all_cons 20 ?_ (all_cons 21 ?_ (all_cons 22 ?_ (all_cons 23 ?_ (all_cons 24 ?_ (all_cons 25 ?_ (all_cons 26 ?_ (all_cons 27 ?_ (all_cons 28 ?_ (all_cons 29 ?_ (all_cons 30 ?_ (all_cons 31 ?_ (all_cons 32 ?_ (all_cons 33 ?_ (all_cons 34 ?_ (all_cons 35 ?_ (all_cons 36 ?_ (all_done 37)))))))))))))))))))))))))))))))))))))
                  · intro o ho fs W HFi HAf HJ A HA HZ K' HK
                    have z0 : A.tmps[0]? = some _ := HZ.out 0 (by decide)
                    clear HAf HA HZ
                    cases ho
                    go_simp
                    exact HK.out _ HJ.out
                  · intro o ho fs W HFi HAf HJ A HA HZ K' HK
                    have z5 : A.tmps[5]? = some _ := HZ.out 5 (by decide)
                    clear HAf HA HZ
                    cases ho
                    go_simp
                    exact HK.out _ HJ.out
                  · intro o ho fs W HFi HAf HJ A HA HZ K' HK
                    have f0 : fs 0 = true := by cases ho; exact HAf.out ⟨0, .data⟩ (by simp) rfl
                    have s0 := HA.out 0 17 (by decide) f0 rfl
                    simp only [List.getD_cons_zero] at s0
                    have f1 : fs 1 = true := by cases ho; exact HAf.out ⟨1, .data⟩ (by simp) rfl
                    have s1 := HA.out 1 18 (by decide) f1 rfl
                    simp only [List.getD_cons_succ, List.getD_cons_zero] at s1
                    clear HAf HA HZ f0 f1
                    cases ho
                    go_simp
                    exact HK.out _ HJ.out
                  · intro o ho fs W HFi HAf HJ A HA HZ K' HK
                    have f2 : fs 2 = true := by cases ho; exact HAf.out ⟨2, .data⟩ (by simp) rfl
                    have s2 := HA.out 2 19 (by decide) f2 rfl
                    simp only [List.getD_cons_succ, List.getD_cons_zero] at s2
                    clear HAf HA HZ f2
                    cases ho
                    go_simp
                    exact HK.out _ HJ.out
                  · intro o ho fs W HFi HAf HJ A HA HZ K' HK
                    have f3 : fs 3 = true := by cases ho; exact HAf.out ⟨3, .data⟩ (by simp) rfl
                    have s3 := HA.out 3 20 (by decide) f3 rfl
                    simp only [List.getD_cons_succ, List.getD_cons_zero] at s3
                    clear HAf HA HZ f3
                    obtain ⟨c0, c1, c2, c3⟩ := HCx.out W HJ.out
                    obtain ⟨d0, d1, d2, d3⟩ := HCy.out W HJ.out
                    cases ho
                    go_simp
                    exact HK.out _ HJ.out
                  · intro o ho fs W HFi HAf HJ A HA HZ K' HK
                    have z1 : A.tmps[1]? = some _ := HZ.out 1 (by decide)
                    clear HAf HA HZ
                    cases ho
                    go_simp
                    exact HK.out _ HJ.out
                  · intro o ho fs W HFi HAf HJ A HA HZ K' HK
                    have z5 : A.tmps[5]? = some _ := HZ.out 5 (by decide)
                    clear HAf HA HZ
                    cases ho
                    go_simp
                    exact HK.out _ HJ.out
                  · intro o ho fs W HFi HAf HJ A HA HZ K' HK
                    have f5 : fs 5 = true := by cases ho; exact HAf.out ⟨5, .data⟩ (by simp) rfl
                    have s5 := HA.out 5 22 (by decide) f5 rfl
                    simp only [List.getD_cons_succ, List.getD_cons_zero] at s5
                    have f6 : fs 6 = true := by cases ho; exact HAf.out ⟨6, .data⟩ (by simp) rfl
                    have s6 := HA.out 6 23 (by decide) f6 rfl
                    simp only [List.getD_cons_succ, List.getD_cons_zero] at s6
                    clear HAf HA HZ f5 f6
                    cases ho
                    go_simp
                    exact HK.out _ HJ.out
                  · intro o ho fs W HFi HAf HJ A HA HZ K' HK
                    have f7 : fs 7 = true := by cases ho; exact HAf.out ⟨7, .data⟩ (by simp) rfl
                    have s7 := HA.out 7 24 (by decide) f7 rfl
                    simp only [List.getD_cons_succ, List.getD_cons_zero] at s7
                    clear HAf HA HZ f7
                    cases ho
                    go_simp
                    exact HK.out _ HJ.out
                  · intro o ho fs W HFi HAf HJ A HA HZ K' HK
                    have f8 : fs 8 = true := by cases ho; exact HAf.out ⟨8, .data⟩ (by simp) rfl
                    have s8 := HA.out 8 25 (by decide) f8 rfl
                    simp only [List.getD_cons_succ, List.getD_cons_zero] at s8
                    clear HAf HA HZ f8
                    obtain ⟨c0, c1, c2, c3⟩ := HCx.out W HJ.out
                    obtain ⟨d0, d1, d2, d3⟩ := HCy.out W HJ.out
                    cases ho
                    go_simp
                    exact HK.out _ HJ.out
                  · intro o ho fs W HFi HAf HJ A HA HZ K' HK
                    have f4 : fs 4 = true := by cases ho; exact HAf.out ⟨4, .data⟩ (by simp) rfl
                    have s4 := HA.out 4 21 (by decide) f4 rfl
                    simp only [List.getD_cons_succ, List.getD_cons_zero] at s4
                    have f9 : fs 9 = true := by cases ho; exact HAf.out ⟨9, .data⟩ (by simp) rfl
                    have s9 := HA.out 9 26 (by decide) f9 rfl
                    simp only [List.getD_cons_succ, List.getD_cons_zero] at s9
                    clear HAf HA HZ f4 f9
                    cases ho
                    go_simp
                    exact HK.out _ HJ.out
                  · intro o ho fs W HFi HAf HJ A HA HZ K' HK
                    have f10 : fs 10 = true := by cases ho; exact HAf.out ⟨10, .data⟩ (by simp) rfl
                    have s10 := HA.out 10 27 (by decide) f10 rfl
                    simp only [List.getD_cons_succ, List.getD_cons_zero] at s10
                    clear HAf HA HZ f10
                    cases ho
                    go_simp
                    exact HK.out _ HJ.out
                  · intro o ho fs W HFi HAf HJ A HA HZ K' HK
                    have z0 : A.tmps[0]? = some _ := HZ.out 0 (by decide)
                    have f11 : fs 11 = true := by cases ho; exact HAf.out ⟨11, .guard⟩ (by simp) rfl
                    have s11 := HA.out 11 28 (by decide) f11 rfl
                    simp only [List.getD_cons_succ, List.getD_cons_zero] at s11
                    clear HAf HA HZ f11
                    cases ho
                    go_simp
                    exact HK.out _ HJ.out
                  · intro o ho fs W HFi HAf HJ A HA HZ K' HK
                    have z5 : A.tmps[5]? = some _ := HZ.out 5 (by decide)
                    have f11 : fs 11 = true := by cases ho; exact HAf.out ⟨11, .guard⟩ (by simp) rfl
                    have s11 := HA.out 11 28 (by decide) f11 rfl
                    simp only [List.getD_cons_succ, List.getD_cons_zero] at s11
                    clear HAf HA HZ f11
                    cases ho
                    go_simp
                    exact HK.out _ HJ.out
                  · intro o ho fs W HFi HAf HJ A HA HZ K' HK
                    have f12 : fs 12 = true := by cases ho; exact HAf.out ⟨12, .data⟩ (by simp) rfl
                    have s12 := HA.out 12 29 (by decide) f12 rfl
                    simp only [List.getD_cons_succ, List.getD_cons_zero] at s12
                    have f13 : fs 13 = true := by cases ho; exact HAf.out ⟨13, .data⟩ (by simp) rfl
                    have s13 := HA.out 13 30 (by decide) f13 rfl
                    simp only [List.getD_cons_succ, List.getD_cons_zero] at s13
                    have f11 : fs 11 = true := by cases ho; exact HAf.out ⟨11, .guard⟩ (by simp) rfl
                    have s11 := HA.out 11 28 (by decide) f11 rfl
                    simp only [List.getD_cons_succ, List.getD_cons_zero] at s11
                    clear HAf HA HZ f12 f13 f11
                    cases ho
                    go_simp
                    exact HK.out _ HJ.out
                  · intro o ho fs W HFi HAf HJ A HA HZ K' HK
                    have f14 : fs 14 = true := by cases ho; exact HAf.out ⟨14, .data⟩ (by simp) rfl
                    have s14 := HA.out 14 31 (by decide) f14 rfl
                    simp only [List.getD_cons_succ, List.getD_cons_zero] at s14
                    have f11 : fs 11 = true := by cases ho; exact HAf.out ⟨11, .guard⟩ (by simp) rfl
                    have s11 := HA.out 11 28 (by decide) f11 rfl
                    simp only [List.getD_cons_succ, List.getD_cons_zero] at s11
                    clear HAf HA HZ f14 f11
                    cases ho
                    go_simp
                    exact HK.out _ HJ.out
                  · intro o ho fs W HFi HAf HJ A HA HZ K' HK
                    have f15 : fs 15 = true := by cases ho; exact HAf.out ⟨15, .data⟩ (by simp) rfl
                    have s15 := HA.out 15 32 (by decide) f15 rfl
                    simp only [List.getD_cons_succ, List.getD_cons_zero] at s15
                    have f11 : fs 11 = true := by cases ho; exact HAf.out ⟨11, .guard⟩ (by simp) rfl
                    have s11 := HA.out 11 28 (by decide) f11 rfl
                    simp only [List.getD_cons_succ, List.getD_cons_zero] at s11
                    clear HAf HA HZ f15 f11
                    obtain ⟨c0, c1, c2, c3⟩ := HCx.out W HJ.out
                    obtain ⟨d0, d1, d2, d3⟩ := HCy.out W HJ.out
                    cases ho
                    go_simp
                    exact HK.out _ HJ.out
                  · intro o ho fs W HFi HAf HJ A HA HZ K' HK
                    have z1 : A.tmps[1]? = some _ := HZ.out 1 (by decide)
                    have f11 : fs 11 = true := by cases ho; exact HAf.out ⟨11, .guard⟩ (by simp) rfl
                    have s11 := HA.out 11 28 (by decide) f11 rfl
                    simp only [List.getD_cons_succ, List.getD_cons_zero] at s11
                    clear HAf HA HZ f11
                    cases ho
                    go_simp
                    exact HK.out _ HJ.out
                  · intro o ho fs W HFi HAf HJ A HA HZ K' HK
                    have z5 : A.tmps[5]? = some _ := HZ.out 5 (by decide)
                    have f11 : fs 11 = true := by cases ho; exact HAf.out ⟨11, .guard⟩ (by simp) rfl
                    have s11 := HA.out 11 28 (by decide) f11 rfl
                    simp only [List.getD_cons_succ, List.getD_cons_zero] at s11
                    clear HAf HA HZ f11
                    cases ho
                    go_simp
                    exact HK.out _ HJ.out
                  · intro o ho fs W HFi HAf HJ A HA HZ K' HK
                    have f17 : fs 17 = true := by cases ho; exact HAf.out ⟨17, .data⟩ (by simp) rfl
                    have s17 := HA.out 17 34 (by decide) f17 rfl
                    simp only [List.getD_cons_succ, List.getD_cons_zero] at s17
                    have f18 : fs 18 = true := by cases ho; exact HAf.out ⟨18, .data⟩ (by simp) rfl
                    have s18 := HA.out 18 35 (by decide) f18 rfl
                    simp only [List.getD_cons_succ, List.getD_cons_zero] at s18
                    have f11 : fs 11 = true := by cases ho; exact HAf.out ⟨11, .guard⟩ (by simp) rfl
                    have s11 := HA.out 11 28 (by decide) f11 rfl
                    simp only [List.getD_cons_succ, List.getD_cons_zero] at s11
                    clear HAf HA HZ f17 f18 f11
                    cases ho
                    go_simp
                    exact HK.out _ HJ.out
                  · intro o ho fs W HFi HAf HJ A HA HZ K' HK
                    have f19 : fs 19 = true := by cases ho; exact HAf.out ⟨19, .data⟩ (by simp) rfl
                    have s19 := HA.out 19 36 (by decide) f19 rfl
                    simp only [List.getD_cons_succ, List.getD_cons_zero] at s19
                    have f11 : fs 11 = true := by cases ho; exact HAf.out ⟨11, .guard⟩ (by simp) rfl
                    have s11 := HA.out 11 28 (by decide) f11 rfl
                    simp only [List.getD_cons_succ, List.getD_cons_zero] at s11
                    clear HAf HA HZ f19 f11
                    cases ho
                    go_simp
                    exact HK.out _ HJ.out
                  · intro o ho fs W HFi HAf HJ A HA HZ K' HK
                    have f20 : fs 20 = true := by cases ho; exact HAf.out ⟨20, .data⟩ (by simp) rfl
                    have s20 := HA.out 20 37 (by decide) f20 rfl
                    simp only [List.getD_cons_succ, List.getD_cons_zero] at s20
                    have f11 : fs 11 = true := by cases ho; exact HAf.out ⟨11, .guard⟩ (by simp) rfl
                    have s11 := HA.out 11 28 (by decide) f11 rfl
                    simp only [List.getD_cons_succ, List.getD_cons_zero] at s11
                    clear HAf HA HZ f20 f11
                    obtain ⟨c0, c1, c2, c3⟩ := HCx.out W HJ.out
                    obtain ⟨d0, d1, d2, d3⟩ := HCy.out W HJ.out
                    cases ho
                    go_simp
                    exact HK.out _ HJ.out
                  · intro o ho fs W HFi HAf HJ A HA HZ K' HK
                    have f16 : fs 16 = true := by cases ho; exact HAf.out ⟨16, .data⟩ (by simp) rfl
                    have s16 := HA.out 16 33 (by decide) f16 rfl
                    simp only [List.getD_cons_succ, List.getD_cons_zero] at s16
                    have f21 : fs 21 = true := by cases ho; exact HAf.out ⟨21, .data⟩ (by simp) rfl
                    have s21 := HA.out 21 38 (by decide) f21 rfl
                    simp only [List.getD_cons_succ, List.getD_cons_zero] at s21
                    have f11 : fs 11 = true := by cases ho; exact HAf.out ⟨11, .guard⟩ (by simp) rfl
                    have s11 := HA.out 11 28 (by decide) f11 rfl
                    simp only [List.getD_cons_succ, List.getD_cons_zero] at s11
                    clear HAf HA HZ f16 f21 f11
                    cases ho
                    go_simp
                    exact HK.out _ HJ.out
                  · intro o ho fs W HFi HAf HJ A HA HZ K' HK
                    have f11 : fs 11 = true := by cases ho; exact HAf.out ⟨11, .data⟩ (by simp) rfl
                    have s11 := HA.out 11 28 (by decide) f11 rfl
                    simp only [List.getD_cons_succ, List.getD_cons_zero] at s11
                    have f22 : fs 22 = true := by cases ho; exact HAf.out ⟨22, .data⟩ (by simp) rfl
                    have s22 := HA.out 22 39 (by decide) f22 rfl
                    simp only [List.getD_cons_succ, List.getD_cons_zero] at s22
                    clear HAf HA HZ f11 f22
                    cases ho
                    go_simp
                    exact HK.out _ HJ.out
                  · intro o ho fs W HFi HAf HJ A HA HZ K' HK
                    have f23 : fs 23 = true := by cases ho; exact HAf.out ⟨23, .data⟩ (by simp) rfl
                    have s23 := HA.out 23 40 (by decide) f23 rfl
                    simp only [List.getD_cons_succ, List.getD_cons_zero] at s23
                    clear HAf HA HZ f23
                    cases ho
                    go_simp
                    exact HK.out _ HJ.out
                  · intro o ho fs W HFi HAf HJ A HA HZ K' HK
                    have z0 : A.tmps[0]? = some _ := HZ.out 0 (by decide)
                    have f24 : fs 24 = true := by cases ho; exact HAf.out ⟨24, .guard⟩ (by simp) rfl
                    have s24 := HA.out 24 41 (by decide) f24 rfl
                    simp only [List.getD_cons_succ, List.getD_cons_zero] at s24
                    clear HAf HA HZ f24
                    cases ho
                    go_simp
                    exact HK.out _ HJ.out
                  · intro o ho fs W HFi HAf HJ A HA HZ K' HK
                    have z5 : A.tmps[5]? = some _ := HZ.out 5 (by decide)
                    have f24 : fs 24 = true := by cases ho; exact HAf.out ⟨24, .guard⟩ (by simp) rfl
                    have s24 := HA.out 24 41 (by decide) f24 rfl
                    simp only [List.getD_cons_succ, List.getD_cons_zero] at s24
                    clear HAf HA HZ f24
                    cases ho
                    go_simp
                    exact HK.out _ HJ.out
                  · intro o ho fs W HFi HAf HJ A HA HZ K' HK
                    have f25 : fs 25 = true := by cases ho; exact HAf.out ⟨25, .data⟩ (by simp) rfl
                    have s25 := HA.out 25 42 (by decide) f25 rfl
                    simp only [List.getD_cons_succ, List.getD_cons_zero] at s25
                    have f26 : fs 26 = true := by cases ho; exact HAf.out ⟨26, .data⟩ (by simp) rfl
                    have s26 := HA.out 26 43 (by decide) f26 rfl
                    simp only [List.getD_cons_succ, List.getD_cons_zero] at s26
                    have f24 : fs 24 = true := by cases ho; exact HAf.out ⟨24, .guard⟩ (by simp) rfl
                    have s24 := HA.out 24 41 (by decide) f24 rfl
                    simp only [List.getD_cons_succ, List.getD_cons_zero] at s24
                    clear HAf HA HZ f25 f26 f24
                    cases ho
                    go_simp
                    exact HK.out _ HJ.out
                  · intro o ho fs W HFi HAf HJ A HA HZ K' HK
                    have f27 : fs 27 = true := by cases ho; exact HAf.out ⟨27, .data⟩ (by simp) rfl
                    have s27 := HA.out 27 44 (by decide) f27 rfl
                    simp only [List.getD_cons_succ, List.getD_cons_zero] at s27
                    have f24 : fs 24 = true := by cases ho; exact HAf.out ⟨24, .guard⟩ (by simp) rfl
                    have s24 := HA.out 24 41 (by decide) f24 rfl
                    simp only [List.getD_cons_succ, List.getD_cons_zero] at s24
                    clear HAf HA HZ f27 f24
                    cases ho
                    go_simp
                    exact HK.out _ HJ.out
                  · intro o ho fs W HFi HAf HJ A HA HZ K' HK
                    have f28 : fs 28 = true := by cases ho; exact HAf.out ⟨28, .data⟩ (by simp) rfl
                    have s28 := HA.out 28 45 (by decide) f28 rfl
                    simp only [List.getD_cons_succ, List.getD_cons_zero] at s28
                    have f24 : fs 24 = true := by cases ho; exact HAf.out ⟨24, .guard⟩ (by simp) rfl
                    have s24 := HA.out 24 41 (by decide) f24 rfl
                    simp only [List.getD_cons_succ, List.getD_cons_zero] at s24
                    clear HAf HA HZ f28 f24
                    obtain ⟨c0, c1, c2, c3⟩ := HCx.out W HJ.out
                    obtain ⟨d0, d1, d2, d3⟩ := HCy.out W HJ.out
                    cases ho
                    go_simp
                    exact HK.out _ HJ.out
                  · intro o ho fs W HFi HAf HJ A HA HZ K' HK
                    have z1 : A.tmps[1]? = some _ := HZ.out 1 (by decide)
                    have f24 : fs 24 = true := by cases ho; exact HAf.out ⟨24, .guard⟩ (by simp) rfl
                    have s24 := HA.out 24 41 (by decide) f24 rfl
                    simp only [List.getD_cons_succ, List.getD_cons_zero] at s24
                    clear HAf HA HZ f24
                    cases ho
                    go_simp
                    exact HK.out _ HJ.out
                  · intro o ho fs W HFi HAf HJ A HA HZ K' HK
                    have z5 : A.tmps[5]? = some _ := HZ.out 5 (by decide)
                    have f24 : fs 24 = true := by cases ho; exact HAf.out ⟨24, .guard⟩ (by simp) rfl
                    have s24 := HA.out 24 41 (by decide) f24 rfl
                    simp only [List.getD_cons_succ, List.getD_cons_zero] at s24
                    clear HAf HA HZ f24
                    cases ho
                    go_simp
                    exact HK.out _ HJ.out
                  · intro o ho fs W HFi HAf HJ A HA HZ K' HK
                    have f30 : fs 30 = true := by cases ho; exact HAf.out ⟨30, .data⟩ (by simp) rfl
                    have s30 := HA.out 30 47 (by decide) f30 rfl
                    simp only [List.getD_cons_succ, List.getD_cons_zero] at s30
                    have f31 : fs 31 = true := by cases ho; exact HAf.out ⟨31, .data⟩ (by simp) rfl
                    have s31 := HA.out 31 48 (by decide) f31 rfl
                    simp only [List.getD_cons_succ, List.getD_cons_zero] at s31
                    have f24 : fs 24 = true := by cases ho; exact HAf.out ⟨24, .guard⟩ (by simp) rfl
                    have s24 := HA.out 24 41 (by decide) f24 rfl
                    simp only [List.getD_cons_succ, List.getD_cons_zero] at s24
                    clear HAf HA HZ f30 f31 f24
                    cases ho
                    go_simp
                    exact HK.out _ HJ.out
                  · intro o ho fs W HFi HAf HJ A HA HZ K' HK
                    have f32 : fs 32 = true := by cases ho; exact HAf.out ⟨32, .data⟩ (by simp) rfl
                    have s32 := HA.out 32 49 (by decide) f32 rfl
                    simp only [List.getD_cons_succ, List.getD_cons_zero] at s32
                    have f24 : fs 24 = true := by cases ho; exact HAf.out ⟨24, .guard⟩ (by simp) rfl
                    have s24 := HA.out 24 41 (by decide) f24 rfl
                    simp only [List.getD_cons_succ, List.getD_cons_zero] at s24
                    clear HAf HA HZ f32 f24
                    cases ho
                    go_simp
                    exact HK.out _ HJ.out
                  · intro o ho fs W HFi HAf HJ A HA HZ K' HK
                    have f33 : fs 33 = true := by cases ho; exact HAf.out ⟨33, .data⟩ (by simp) rfl
                    have s33 := HA.out 33 50 (by decide) f33 rfl
                    simp only [List.getD_cons_succ, List.getD_cons_zero] at s33
                    have f24 : fs 24 = true := by cases ho; exact HAf.out ⟨24, .guard⟩ (by simp) rfl
                    have s24 := HA.out 24 41 (by decide) f24 rfl
                    simp only [List.getD_cons_succ, List.getD_cons_zero] at s24
                    clear HAf HA HZ f33 f24
                    obtain ⟨c0, c1, c2, c3⟩ := HCx.out W HJ.out
                    obtain ⟨d0, d1, d2, d3⟩ := HCy.out W HJ.out
                    cases ho
                    go_simp
                    exact HK.out _ HJ.out
                  · intro o ho fs W HFi HAf HJ A HA HZ K' HK
                    have f29 : fs 29 = true := by cases ho; exact HAf.out ⟨29, .data⟩ (by simp) rfl
                    have s29 := HA.out 29 46 (by decide) f29 rfl
                    simp only [List.getD_cons_succ, List.getD_cons_zero] at s29
                    have f34 : fs 34 = true := by cases ho; exact HAf.out ⟨34, .data⟩ (by simp) rfl
                    have s34 := HA.out 34 51 (by decide) f34 rfl
                    simp only [List.getD_cons_succ, List.getD_cons_zero] at s34
                    have f24 : fs 24 = true := by cases ho; exact HAf.out ⟨24, .guard⟩ (by simp) rfl
                    have s24 := HA.out 24 41 (by decide) f24 rfl
                    simp only [List.getD_cons_succ, List.getD_cons_zero] at s24
                    clear HAf HA HZ f29 f34 f24
                    cases ho
                    go_simp
                    exact HK.out _ HJ.out
                  · intro o ho fs W HFi HAf HJ A HA HZ K' HK
                    have f24 : fs 24 = true := by cases ho; exact HAf.out ⟨24, .data⟩ (by simp) rfl
                    have s24 := HA.out 24 41 (by decide) f24 rfl
                    simp only [List.getD_cons_succ, List.getD_cons_zero] at s24
                    have f35 : fs 35 = true := by cases ho; exact HAf.out ⟨35, .data⟩ (by simp) rfl
                    have s35 := HA.out 35 52 (by decide) f35 rfl
                    simp only [List.getD_cons_succ, List.getD_cons_zero] at s35
                    clear HAf HA HZ f24 f35
                    cases ho
                    go_simp
                    exact HK.out _ HJ.out
                · intro W hJ
                  simp only [canon, Act.put, List.getD_cons_succ, List.getD_cons_zero, List.drop_succ_cons, List.drop_zero, List.setIfInBounds_toArray, List.set_cons_zero, List.set_cons_succ]
                  have HBW := Lib.hid hJ
                  clear hJ
                  simp only [wpList]
                  refine (‹∀ (a' : Act) (w' : World), Met _ a' w' → _› _ _ ?_)
                  go_meet
                  exact ⟨by rw [HR.out]; exact congrArg Value.bool X3.out, HBW⟩
            · have HR := Lib.hid (show S = false from by rw [hs]; simp [h2])
              have x2 : ((ba tx).toList == (ba ty).toList) = false := by rw [ba_toList, ba_toList]; simpa using h2
              have x2p : ¬ (ba tx).toList = (ba ty).toList := by rw [ba_toList, ba_toList]; exact h2
              clear hs h2
              refine' wp_region_fix (by kernel_rfl) 37 [some 17, some 18, some 19, some 20, some 21, some 22, some 23, some 24, some 25, some 26, some 27, some 28, some 29, some 30, some 31, some 32, some 33, some 34, some 35, some 36, some 37, some 38, some 39, some 40, some 41, some 42, some 43, some 44, some 45, some 46, some 47, some 48, some 49, some 50, some 51, some 52, some 53] [_, _, _, _, _, _, _, _, _, _, _, _, _, _, _, _, _, _, _, _, _, _, _, _, _, _, _, _, _, _, _, _, _, _, _, _, _] [] (fun (_ : List Bool) (W : World) => Below wr.heap.size wr W) (by kernel_rfl) (by decide) (by kernel_rfl) (by decide) (by rfl) (by decide) ((Below.refl _ _).drew) ?_ ?_
              rotate_left 37
              · refine all_cons 0 ?_ (all_cons 1 ?_ (all_cons 2 ?_ (all_cons 3 ?_ (all_cons 4 ?_ (all_cons 5 ?_ (all_cons 6 ?_ (all_cons 7 ?_ (all_cons 8 ?_ (all_cons 9 ?_ (all_cons 10 ?_ (all_cons 11 ?_ (all_cons 12 ?_ (all_cons 13 ?_ (all_cons 14 ?_ (all_cons 15 ?_ (all_cons 16 ?_ (all_cons 17 ?_ (all_cons 18 ?_ (all_cons 19 ?_ (all_cons 20 ?_ (all_cons 21 ?_ (all_cons 22 ?_ (all_cons 23 ?_ (all_cons 24 ?_ (all_cons 25 ?_ (all_cons 26 ?_ (all_cons 27 ?_ (all_cons 28 ?_ (all_cons 29 ?_ (all_cons 30 ?_ (all_cons 31 ?_ (all_cons 32 ?_ (all_cons 33 ?_ (all_cons 34 ?_ (all_cons 35 ?_ (all_cons 36 ?_ (all_done 37)))))))))))))))))))))))))))))))))))))
                · intro o ho fs W HFi HAf HJ A HA HZ K' HK
                  have z0 : A.tmps[0]? = some _ := HZ.out 0 (by decide)
                  clear HAf HA HZ
                  cases ho
                  go_simp
                  exact HK.out _ HJ.out
                · intro o ho fs W HFi HAf HJ A HA HZ K' HK
                  have z5 : A.tmps[5]? = some _ := HZ.out 5 (by decide)
                  clear HAf HA HZ
                  cases ho
                  go_simp
                  exact HK.out _ HJ.out
                · intro o ho fs W HFi HAf HJ A HA HZ K' HK
                  have f0 : fs 0 = true := by cases ho; exact HAf.out ⟨0, .data⟩ (by simp) rfl
                  have s0 := HA.out 0 17 (by decide) f0 rfl
                  simp only [List.getD_cons_zero] at s0
                  have f1 : fs 1 = true := by cases ho; exact HAf.out ⟨1, .data⟩ (by simp) rfl
                  have s1 := HA.out 1 18 (by decide) f1 rfl
                  simp only [List.getD_cons_succ, List.getD_cons_zero] at s1
                  clear HAf HA HZ f0 f1
                  cases ho
                  go_simp
                  exact HK.out _ HJ.out
                · intro o ho fs W HFi HAf HJ A HA HZ K' HK
                  have f2 : fs 2 = true := by cases ho; exact HAf.out ⟨2, .data⟩ (by simp) rfl
                  have s2 := HA.out 2 19 (by decide) f2 rfl
                  simp only [List.getD_cons_succ, List.getD_cons_zero] at s2
                  clear HAf HA HZ f2
                  cases ho
                  go_simp
                  exact HK.out _ HJ.out
                · intro o ho fs W HFi HAf HJ A HA HZ K' HK
                  have f3 : fs 3 = true := by cases ho; exact HAf.out ⟨3, .data⟩ (by simp) rfl
                  have s3 := HA.out 3 20 (by decide) f3 rfl
                  simp only [List.getD_cons_succ, List.getD_cons_zero] at s3
                  clear HAf HA HZ f3
                  obtain ⟨c0, c1, c2, c3⟩ := HCx.out W HJ.out
                  obtain ⟨d0, d1, d2, d3⟩ := HCy.out W HJ.out
                  cases ho
                  go_simp
                  exact HK.out _ HJ.out
                · intro o ho fs W HFi HAf HJ A HA HZ K' HK
                  have z1 : A.tmps[1]? = some _ := HZ.out 1 (by decide)
                  clear HAf HA HZ
                  cases ho
                  go_simp
                  exact HK.out _ HJ.out
                · intro o ho fs W HFi HAf HJ A HA HZ K' HK
                  have z5 : A.tmps[5]? = some _ := HZ.out 5 (by decide)
                  clear HAf HA HZ
                  cases ho
                  go_simp
                  exact HK.out _ HJ.out
                · intro o ho fs W HFi HAf HJ A HA HZ K' HK
                  have f5 : fs 5 = true := by cases ho; exact HAf.out ⟨5, .data⟩ (by simp) rfl
                  have s5 := HA.out 5 22 (by decide) f5 rfl
                  simp only [List.getD_cons_succ, List.getD_cons_zero] at s5
                  have f6 : fs 6 = true := by cases ho; exact HAf.out ⟨6, .data⟩ (by simp) rfl
                  have s6 := HA.out 6 23 (by decide) f6 rfl
                  simp only [List.getD_cons_succ, List.getD_cons_zero] at s6
                  clear HAf HA HZ f5 f6
                  cases ho
                  go_simp
                  exact HK.out _ HJ.out
                · intro o ho fs W HFi HAf HJ A HA HZ K' HK
                  have f7 : fs 7 = true := by cases ho; exact HAf.out ⟨7, .data⟩ (by simp) rfl
                  have s7 := HA.out 7 24 (by decide) f7 rfl
                  simp only [List.getD_cons_succ, List.getD_cons_zero] at s7
                  clear HAf HA HZ f7
                  cases ho
                  go_simp
                  exact HK.out _ HJ.out
                · intro o ho fs W HFi HAf HJ A HA HZ K' HK
                  have f8 : fs 8 = true := by cases ho; exact HAf.out ⟨8, .data⟩ (by simp) rfl
                  have s8 := HA.out 8 25 (by decide) f8 rfl
                  simp only [List.getD_cons_succ, List.getD_cons_zero] at s8
                  clear HAf HA HZ f8
                  obtain ⟨c0, c1, c2, c3⟩ := HCx.out W HJ.out
                  obtain ⟨d0, d1, d2, d3⟩ := HCy.out W HJ.out
                  cases ho
                  go_simp
                  exact HK.out _ HJ.out
                · intro o ho fs W HFi HAf HJ A HA HZ K' HK
                  have f4 : fs 4 = true := by cases ho; exact HAf.out ⟨4, .data⟩ (by simp) rfl
                  have s4 := HA.out 4 21 (by decide) f4 rfl
                  simp only [List.getD_cons_succ, List.getD_cons_zero] at s4
                  have f9 : fs 9 = true := by cases ho; exact HAf.out ⟨9, .data⟩ (by simp) rfl
                  have s9 := HA.out 9 26 (by decide) f9 rfl
                  simp only [List.getD_cons_succ, List.getD_cons_zero] at s9
                  clear HAf HA HZ f4 f9
                  cases ho
                  go_simp
                  exact HK.out _ HJ.out
                · intro o ho fs W HFi HAf HJ A HA HZ K' HK
                  have f10 : fs 10 = true := by cases ho; exact HAf.out ⟨10, .data⟩ (by simp) rfl
                  have s10 := HA.out 10 27 (by decide) f10 rfl
                  simp only [List.getD_cons_succ, List.getD_cons_zero] at s10
                  clear HAf HA HZ f10
                  cases ho
                  go_simp
                  exact HK.out _ HJ.out
                · intro o ho fs W HFi HAf HJ A HA HZ K' HK
                  have z0 : A.tmps[0]? = some _ := HZ.out 0 (by decide)
                  have f11 : fs 11 = true := by cases ho; exact HAf.out ⟨11, .guard⟩ (by simp) rfl
                  have s11 := HA.out 11 28 (by decide) f11 rfl
                  simp only [List.getD_cons_succ, List.getD_cons_zero] at s11
                  clear HAf HA HZ f11
                  cases ho
                  go_simp
                  exact HK.out _ HJ.out
                · intro o ho fs W HFi HAf HJ A HA HZ K' HK
                  have z5 : A.tmps[5]? = some _ := HZ.out 5 (by decide)
                  have f11 : fs 11 = true := by cases ho; exact HAf.out ⟨11, .guard⟩ (by simp) rfl
                  have s11 := HA.out 11 28 (by decide) f11 rfl
                  simp only [List.getD_cons_succ, List.getD_cons_zero] at s11
                  clear HAf HA HZ f11
                  cases ho
                  go_simp
                  exact HK.out _ HJ.out
                · intro o ho fs W HFi HAf HJ A HA HZ K' HK
                  have f12 : fs 12 = true := by cases ho; exact HAf.out ⟨12, .data⟩ (by simp) rfl
                  have s12 := HA.out 12 29 (by decide) f12 rfl
                  simp only [List.getD_cons_succ, List.getD_cons_zero] at s12
                  have f13 : fs 13 = true := by cases ho; exact HAf.out ⟨13, .data⟩ (by simp) rfl
                  have s13 := HA.out 13 30 (by decide) f13 rfl
                  simp only [List.getD_cons_succ, List.getD_cons_zero] at s13
                  have f11 : fs 11 = true := by cases ho; exact HAf.out ⟨11, .guard⟩ (by simp) rfl
                  have s11 := HA.out 11 28 (by decide) f11 rfl
                  simp only [List.getD_cons_succ, List.getD_cons_zero] at s11
                  clear HAf HA HZ f12 f13 f11
                  cases ho
                  go_simp
                  exact HK.out _ HJ.out
                · intro o ho fs W HFi HAf HJ A HA HZ K' HK
                  have f14 : fs 14 = true := by cases ho; exact HAf.out ⟨14, .data⟩ (by simp) rfl
                  have s14 := HA.out 14 31 (by decide) f14 rfl
                  simp only [List.getD_cons_succ, List.getD_cons_zero] at s14
                  have f11 : fs 11 = true := by cases ho; exact HAf.out ⟨11, .guard⟩ (by simp) rfl
                  have s11 := HA.out 11 28 (by decide) f11 rfl
                  simp only [List.getD_cons_succ, List.getD_cons_zero] at s11
                  clear HAf HA HZ f14 f11
                  cases ho
                  go_simp
                  exact HK.out _ HJ.out
                · intro o ho fs W HFi HAf HJ A HA HZ K' HK
                  have f15 : fs 15 = true := by cases ho; exact HAf.out ⟨15, .data⟩ (by simp) rfl
                  have s15 := HA.out 15 32 (by decide) f15 rfl
                  simp only [List.getD_cons_succ, List.getD_cons_zero] at s15
                  have f11 : fs 11 = true := by cases ho; exact HAf.out ⟨11, .guard⟩ (by simp) rfl
                  have s11 := HA.out 11 28 (by decide) f11 rfl
                  simp only [List.getD_cons_succ, List.getD_cons_zero] at s11
                  clear HAf HA HZ f15 f11
                  obtain ⟨c0, c1, c2, c3⟩ := HCx.out W HJ.out
                  obtain ⟨d0, d1, d2, d3⟩ := HCy.out W HJ.out
                  cases ho
                  go_simp
                  exact HK.out _ HJ.out
                · intro o ho fs W HFi HAf HJ A HA HZ K' HK
                  have z1 : A.tmps[1]? = some _ := HZ.out 1 (by decide)
                  have f11 : fs 11 = true := by cases ho; exact HAf.out ⟨11, .guard⟩ (by simp) rfl
                  have s11 := HA.out 11 28 (by decide) f11 rfl
                  simp only [List.getD_cons_succ, List.getD_cons_zero] at s11
                  clear HAf HA HZ f11
                  cases ho
                  go_simp
                  exact HK.out _ HJ.out
                · intro o ho fs W HFi HAf HJ A HA HZ K' HK
                  have z5 : A.tmps[5]? = some _ := HZ.out 5 (by decide)
                  have f11 : fs 11 = true := by cases ho; exact HAf.out ⟨11, .guard⟩ (by simp) rfl
                  have s11 := HA.out 11 28 (by decide) f11 rfl
                  simp only [List.getD_cons_succ, List.getD_cons_zero] at s11
                  clear HAf HA HZ f11
                  cases ho
                  go_simp
                  exact HK.out _ HJ.out
                · intro o ho fs W HFi HAf HJ A HA HZ K' HK
                  have f17 : fs 17 = true := by cases ho; exact HAf.out ⟨17, .data⟩ (by simp) rfl
                  have s17 := HA.out 17 34 (by decide) f17 rfl
                  simp only [List.getD_cons_succ, List.getD_cons_zero] at s17
                  have f18 : fs 18 = true := by cases ho; exact HAf.out ⟨18, .data⟩ (by simp) rfl
                  have s18 := HA.out 18 35 (by decide) f18 rfl
                  simp only [List.getD_cons_succ, List.getD_cons_zero] at s18
                  have f11 : fs 11 = true := by cases ho; exact HAf.out ⟨11, .guard⟩ (by simp) rfl
                  have s11 := HA.out 11 28 (by decide) f11 rfl
                  simp only [List.getD_cons_succ, List.getD_cons_zero] at s11
                  clear HAf HA HZ f17 f18 f11
                  cases ho
                  go_simp
                  exact HK.out _ HJ.out
                · intro o ho fs W HFi HAf HJ A HA HZ K' HK
                  have f19 : fs 19 = true := by cases ho; exact HAf.out ⟨19, .data⟩ (by simp) rfl
                  have s19 := HA.out 19 36 (by decide) f19 rfl
                  simp only [List.getD_cons_succ, List.getD_cons_zero] at s19
                  have f11 : fs 11 = true := by cases ho; exact HAf.out ⟨11, .guard⟩ (by simp) rfl
                  have s11 := HA.out 11 28 (by decide) f11 rfl
                  simp only [List.getD_cons_succ, List.getD_cons_zero] at s11
                  clear HAf HA HZ f19 f11
                  cases ho
                  go_simp
                  exact HK.out _ HJ.out
                · intro o ho fs W HFi HAf HJ A HA HZ K' HK
                  have f20 : fs 20 = true := by cases ho; exact HAf.out ⟨20, .data⟩ (by simp) rfl
                  have s20 := HA.out 20 37 (by decide) f20 rfl
                  simp only [List.getD_cons_succ, List.getD_cons_zero] at s20
                  have f11 : fs 11 = true := by cases ho; exact HAf.out ⟨11, .guard⟩ (by simp) rfl
                  have s11 := HA.out 11 28 (by decide) f11 rfl
                  simp only [List.getD_cons_succ, List.getD_cons_zero] at s11
                  clear HAf HA HZ f20 f11
                  obtain ⟨c0, c1, c2, c3⟩ := HCx.out W HJ.out
                  obtain ⟨d0, d1, d2, d3⟩ := HCy.out W HJ.out
                  cases ho
                  go_simp
                  exact HK.out _ HJ.out
                · intro o ho fs W HFi HAf HJ A HA HZ K' HK
                  have f16 : fs 16 = true := by cases ho; exact HAf.out ⟨16, .data⟩ (by simp) rfl
                  have s16 := HA.out 16 33 (by decide) f16 rfl
                  simp only [List.getD_cons_succ, List.getD_cons_zero] at s16
                  have f21 : fs 21 = true := by cases ho; exact HAf.out ⟨21, .data⟩ (by simp) rfl
                  have s21 := HA.out 21 38 (by decide) f21 rfl
                  simp only [List.getD_cons_succ, List.getD_cons_zero] at s21
                  have f11 : fs 11 = true := by cases ho; exact HAf.out ⟨11, .guard⟩ (by simp) rfl
                  have s11 := HA.out 11 28 (by decide) f11 rfl
                  simp only [List.getD_cons_succ, List.getD_cons_zero] at s11
                  clear HAf HA HZ f16 f21 f11
                  cases ho
                  go_simp
                  exact HK.out _ HJ.out
                · intro o ho fs W HFi HAf HJ A HA HZ K' HK
                  have f11 : fs 11 = true := by cases ho; exact HAf.out ⟨11, .data⟩ (by simp) rfl
                  have s11 := HA.out 11 28 (by decide) f11 rfl
                  simp only [List.getD_cons_succ, List.getD_cons_zero] at s11
                  have f22 : fs 22 = true := by cases ho; exact HAf.out ⟨22, .data⟩ (by simp) rfl
                  have s22 := HA.out 22 39 (by decide) f22 rfl
                  simp only [List.getD_cons_succ, List.getD_cons_zero] at s22
                  clear HAf HA HZ f11 f22
                  cases ho
                  go_simp
                  exact HK.out _ HJ.out
                · intro o ho fs W HFi HAf HJ A HA HZ K' HK
                  have f23 : fs 23 = true := by cases ho; exact HAf.out ⟨23, .data⟩ (by simp) rfl
                  have s23 := HA.out 23 40 (by decide) f23 rfl
                  simp only [List.getD_cons_succ, List.getD_cons_zero] at s23
                  clear HAf HA HZ f23
                  cases ho
                  go_simp
                  exact HK.out _ HJ.out
                · intro o ho fs W HFi HAf HJ A HA HZ K' HK
                  have z0 : A.tmps[0]? = some _ := HZ.out 0 (by decide)
                  have f24 : fs 24 = true := by cases ho; exact HAf.out ⟨24, .guard⟩ (by simp) rfl
                  have s24 := HA.out 24 41 (by decide) f24 rfl
                  simp only [List.getD_cons_succ, List.getD_cons_zero] at s24
                  clear HAf HA HZ f24
                  cases ho
                  go_simp
                  exact HK.out _ HJ.out
                · intro o ho fs W HFi HAf HJ A HA HZ K' HK
                  have z5 : A.tmps[5]? = some _ := HZ.out 5 (by decide)
                  have f24 : fs 24 = true := by cases ho; exact HAf.out ⟨24, .guard⟩ (by simp) rfl
                  have s24 := HA.out 24 41 (by decide) f24 rfl
                  simp only [List.getD_cons_succ, List.getD_cons_zero] at s24
                  clear HAf HA HZ f24
                  cases ho
                  go_simp
                  exact HK.out _ HJ.out
                · intro o ho fs W HFi HAf HJ A HA HZ K' HK
                  have f25 : fs 25 = true := by cases ho; exact HAf.out ⟨25, .data⟩ (by simp) rfl
                  have s25 := HA.out 25 42 (by decide) f25 rfl
                  simp only [List.getD_cons_succ, List.getD_cons_zero] at s25
                  have f26 : fs 26 = true := by cases ho; exact HAf.out ⟨26, .data⟩ (by simp) rfl
                  have s26 := HA.out 26 43 (by decide) f26 rfl
                  simp only [List.getD_cons_succ, List.getD_cons_zero] at s26
                  have f24 : fs 24 = true := by cases ho; exact HAf.out ⟨24, .guard⟩ (by simp) rfl
                  have s24 := HA.out 24 41 (by decide) f24 rfl
                  simp only [List.getD_cons_succ, List.getD_cons_zero] at s24
                  clear HAf HA HZ f25 f26 f24
                  cases ho
                  go_simp
                  exact HK.out _ HJ.out
                · intro o ho fs W HFi HAf HJ A HA HZ K' HK
                  have f27 : fs 27 = true := by cases ho; exact HAf.out ⟨27, .data⟩ (by simp) rfl
                  have s27 := HA.out 27 44 (by decide) f27 rfl
                  simp only [List.getD_cons_succ, List.getD_cons_zero] at s27
                  have f24 : fs 24 = true := by cases ho; exact HAf.out ⟨24, .guard⟩ (by simp) rfl
                  have s24 := HA.out 24 41 (by decide) f24 rfl
                  simp only [List.getD_cons_succ, List.getD_cons_zero] at s24
                  clear HAf HA HZ f27 f24
                  cases ho
                  go_simp
                  exact HK.out _ HJ.out
                · intro o ho fs W HFi HAf HJ A HA HZ K' HK
                  have f28 : fs 28 = true := by cases ho; exact HAf.out ⟨28, .data⟩ (by simp) rfl
                  have s28 := HA.out 28 45 (by decide) f28 rfl
                  simp only [List.getD_cons_succ, List.getD_cons_zero] at s28
                  have f24 : fs 24 = true := by cases ho; exact HAf.out ⟨24, .guard⟩ (by simp) rfl
                  have s24 := HA.out 24 41 (by decide) f24 rfl
                  simp only [List.getD_cons_succ, List.getD_cons_zero] at s24
                  clear HAf HA HZ f28 f24
                  obtain ⟨c0, c1, c2, c3⟩ := HCx.out W HJ.out
                  obtain ⟨d0, d1, d2, d3⟩ := HCy.out W HJ.out
                  cases ho
                  go_simp
                  exact HK.out _ HJ.out
                · intro o ho fs W HFi HAf HJ A HA HZ K' HK
                  have z1 : A.tmps[1]? = some _ := HZ.out 1 (by decide)
                  have f24 : fs 24 = true := by cases ho; exact HAf.out ⟨24, .guard⟩ (by simp) rfl
                  have s24 := HA.out 24 41 (by decide) f24 rfl
                  simp only [List.getD_cons_succ, List.getD_cons_zero] at s24
                  clear HAf HA HZ f24
                  cases ho
                  go_simp
                  exact HK.out _ HJ.out
                · intro o ho fs W HFi HAf HJ A HA HZ K' HK
                  have z5 : A.tmps[5]? = some _ := HZ.out 5 (by decide)
                  have f24 : fs 24 = true := by cases ho; exact HAf.out ⟨24, .guard⟩ (by simp) rfl
                  have s24 := HA.out 24 41 (by decide) f24 rfl
                  simp only [List.getD_cons_succ, List.getD_cons_zero] at s24
                  clear HAf HA HZ f24
                  cases ho
                  go_simp
                  exact HK.out _ HJ.out
                · intro o ho fs W HFi HAf HJ A HA HZ K' HK
                  have f30 : fs 30 = true := by cases ho; exact HAf.out ⟨30, .data⟩ (by simp) rfl
                  have s30 := HA.out 30 47 (by decide) f30 rfl
                  simp only [List.getD_cons_succ, List.getD_cons_zero] at s30
                  have f31 : fs 31 = true := by cases ho; exact HAf.out ⟨31, .data⟩ (by simp) rfl
                  have s31 := HA.out 31 48 (by decide) f31 rfl
                  simp only [List.getD_cons_succ, List.getD_cons_zero] at s31
                  have f24 : fs 24 = true := by cases ho; exact HAf.out ⟨24, .guard⟩ (by simp) rfl
                  have s24 := HA.out 24 41 (by decide) f24 rfl
                  simp only [List.getD_cons_succ, List.getD_cons_zero] at s24
                  clear HAf HA HZ f30 f31 f24
                  cases ho
                  go_simp
                  exact HK.out _ HJ.out
                · intro o ho fs W HFi HAf HJ A HA HZ K' HK
                  have f32 : fs 32 = true := by cases ho; exact HAf.out ⟨32, .data⟩ (by simp) rfl
                  have s32 := HA.out 32 49 (by decide) f32 rfl
                  simp only [List.getD_cons_succ, List.getD_cons_zero] at s32
                  have f24 : fs 24 = true := by cases ho; exact HAf.out ⟨24, .guard⟩ (by simp) rfl
                  have s24 := HA.out 24 41 (by decide) f24 rfl
                  simp only [List.getD_cons_succ, List.getD_cons_zero] at s24
                  clear HAf HA HZ f32 f24
                  cases ho
                  go_simp
                  exact HK.out _ HJ.out
                · intro o ho fs W HFi HAf HJ A HA HZ K' HK
                  have f33 : fs 33 = true := by cases ho; exact HAf.out ⟨33, .data⟩ (by simp) rfl
                  have s33 := HA.out 33 50 (by decide) f33 rfl
                  simp only [List.getD_cons_succ, List.getD_cons_zero] at s33
                  have f24 : fs 24 = true := by cases ho; exact HAf.out ⟨24, .guard⟩ (by simp) rfl
                  have s24 := HA.out 24 41 (by decide) f24 rfl
                  simp only [List.getD_cons_succ, List.getD_cons_zero] at s24
                  clear HAf HA HZ f33 f24
                  obtain ⟨c0, c1, c2, c3⟩ := HCx.out W HJ.out
                  obtain ⟨d0, d1, d2, d3⟩ := HCy.out W HJ.out
                  cases ho
                  go_simp
                  exact HK.out _ HJ.out
                · intro o ho fs W HFi HAf HJ A HA HZ K' HK
                  have f29 : fs 29 = true := by cases ho; exact HAf.out ⟨29, .data⟩ (by simp) rfl
                  have s29 := HA.out 29 46 (by decide) f29 rfl
                  simp only [List.getD_cons_succ, List.getD_cons_zero] at s29
                  have f34 : fs 34 = true := by cases ho; exact HAf.out ⟨34, .data⟩ (by simp) rfl
                  have s34 := HA.out 34 51 (by decide) f34 rfl
                  simp only [List.getD_cons_succ, List.getD_cons_zero] at s34
                  have f24 : fs 24 = true := by cases ho; exact HAf.out ⟨24, .guard⟩ (by simp) rfl
                  have s24 := HA.out 24 41 (by decide) f24 rfl
                  simp only [List.getD_cons_succ, List.getD_cons_zero] at s24
                  clear HAf HA HZ f29 f34 f24
                  cases ho
                  go_simp
                  exact HK.out _ HJ.out
                · intro o ho fs W HFi HAf HJ A HA HZ K' HK
                  have f24 : fs 24 = true := by cases ho; exact HAf.out ⟨24, .data⟩ (by simp) rfl
                  have s24 := HA.out 24 41 (by decide) f24 rfl
                  simp only [List.getD_cons_succ, List.getD_cons_zero] at s24
                  have f35 : fs 35 = true := by cases ho; exact HAf.out ⟨35, .data⟩ (by simp) rfl
                  have s35 := HA.out 35 52 (by decide) f35 rfl
                  simp only [List.getD_cons_succ, List.getD_cons_zero] at s35
                  clear HAf HA HZ f24 f35
                  cases ho
                  go_simp
                  exact HK.out _ HJ.out
              · intro W hJ
                simp only [canon, Act.put, List.getD_cons_succ, List.getD_cons_zero, List.drop_succ_cons, List.drop_zero, List.setIfInBounds_toArray, List.set_cons_zero, List.set_cons_succ]
                have HBW := Lib.hid hJ
                clear hJ
                simp only [wpList]
                refine (‹∀ (a' : Act) (w' : World), Met _ a' w' → _› _ _ ?_)
                go_meet
                exact ⟨by rw [HR.out]; rfl, HBW⟩
          · have HR := Lib.hid (show S = false from by rw [hs]; simp [h1])
            have x1 : ¬ kx = ky := h1
            clear hs h1
            refine' wp_region_fix (by kernel_rfl) 37 [some 17, some 18, some 19, some 20, some 21, some 22, some 23, some 24, some 25, some 26, some 27, some 28, some 29, some 30, some 31, some 32, some 33, some 34, some 35, some 36, some 37, some 38, some 39, some 40, some 41, some 42, some 43, some 44, some 45, some 46, some 47, some 48, some 49, some 50, some 51, some 52, some 53] [_, _, _, _, _, _, _, _, _, _, _, _, _, _, _, _, _, _, _, _, _, _, _, _, _, _, _, _, _, _, _, _, _, _, _, _, _] [] (fun (_ : List Bool) (W : World) => Below wr.heap.size wr W) (by kernel_rfl) (by decide) (by kernel_rfl) (by decide) (by rfl) (by decide) ((Below.refl _ _).drew) ?_ ?_
            rotate_left 37
            · refine all_cons 0 ?_ (all_cons 1 ?_ (all_cons 2 ?_ (all_cons 3 ?_ (all_cons 4 ?_ (all_cons 5 ?_ (all_cons 6 ?_ (all_cons 7 ?_ (all_cons 8 ?_ (all_cons 9 ?_ (all_cons 10 ?_ (all_cons 11 ?_ (all_cons 12 ?_ (all_cons 13 ?_ (all_cons 14 ?_ (all_cons 15 ?_ (all_cons 16 ?_ (all_cons 17 ?_ (all_cons 18 ?_ (all_cons 19 ?_ (all_cons 20 ?_ (all_cons 21 ?_ (all_cons 22 ?_ (all_cons 23 ?_ (all_cons 24 ?_ (all_cons 25 ?_ (all_cons 26 ?_ (all_cons 27 ?_ (all_cons 28 ?_ (all_cons 29 ?_ (all_cons 30 ?_ (all_cons 31 ?_ (all_cons 32 ?_ (all_cons 33 ?_ (all_cons 34 ?_ (all_cons 35 ?_ (all_cons 36 ?_ (all_done 37)))))))))))))))))))))))))))))))))))))
              · intro o ho fs W HFi HAf HJ A HA HZ K' HK
                have z0 : A.tmps[0]? = some _ := HZ.out 0 (by decide)
                clear HAf HA HZ
                cases ho
                go_simp
                exact HK.out _ HJ.out
              · intro o ho fs W HFi HAf HJ A HA HZ K' HK
                have z5 : A.tmps[5]? = some _ := HZ.out 5 (by decide)
                clear HAf HA HZ
                cases ho
                go_simp
                exact HK.out _ HJ.out
              · intro o ho fs W HFi HAf HJ A HA HZ K' HK
                have f0 : fs 0 = true := by cases ho; exact HAf.out ⟨0, .data⟩ (by simp) rfl
                have s0 := HA.out 0 17 (by decide) f0 rfl
                simp only [List.getD_cons_zero] at s0
                have f1 : fs 1 = true := by cases ho; exact HAf.out ⟨1, .data⟩ (by simp) rfl
                have s1 := HA.out 1 18 (by decide) f1 rfl
                simp only [List.getD_cons_succ, List.getD_cons_zero] at s1
                clear HAf HA HZ f0 f1
                cases ho
                go_simp
                exact HK.out _ HJ.out
              · intro o ho fs W HFi HAf HJ A HA HZ K' HK
                have f2 : fs 2 = true := by cases ho; exact HAf.out ⟨2, .data⟩ (by simp) rfl
                have s2 := HA.out 2 19 (by decide) f2 rfl
                simp only [List.getD_cons_succ, List.getD_cons_zero] at s2
                clear HAf HA HZ f2
                cases ho
                go_simp
                exact HK.out _ HJ.out
              · intro o ho fs W HFi HAf HJ A HA HZ K' HK
                have f3 : fs 3 = true := by cases ho; exact HAf.out ⟨3, .data⟩ (by simp) rfl
                have s3 := HA.out 3 20 (by decide) f3 rfl
                simp only [List.getD_cons_succ, List.getD_cons_zero] at s3
                clear HAf HA HZ f3
                obtain ⟨c0, c1, c2, c3⟩ := HCx.out W HJ.out
                obtain ⟨d0, d1, d2, d3⟩ := HCy.out W HJ.out
                cases ho
                go_simp
                exact HK.out _ HJ.out
              · intro o ho fs W HFi HAf HJ A HA HZ K' HK
                have z1 : A.tmps[1]? = some _ := HZ.out 1 (by decide)
                clear HAf HA HZ
                cases ho
                go_simp
                exact HK.out _ HJ.out
              · intro o ho fs W HFi HAf HJ A HA HZ K' HK
                have z5 : A.tmps[5]? = some _ := HZ.out 5 (by decide)
                clear HAf HA HZ
                cases ho
                go_simp
                exact HK.out _ HJ.out
              · intro o ho fs W HFi HAf HJ A HA HZ K' HK
                have f5 : fs 5 = true := by cases ho; exact HAf.out ⟨5, .data⟩ (by simp) rfl
                have s5 := HA.out 5 22 (by decide) f5 rfl
                simp only [List.getD_cons_succ, List.getD_cons_zero] at s5
                have f6 : fs 6 = true := by cases ho; exact HAf.out ⟨6, .data⟩ (by simp) rfl
                have s6 := HA.out 6 23 (by decide) f6 rfl
                simp only [List.getD_cons_succ, List.getD_cons_zero] at s6
                clear HAf HA HZ f5 f6
                cases ho
                go_simp
                exact HK.out _ HJ.out
              · intro o ho fs W HFi HAf HJ A HA HZ K' HK
                have f7 : fs 7 = true := by cases ho; exact HAf.out ⟨7, .data⟩ (by simp) rfl
                have s7 := HA.out 7 24 (by decide) f7 rfl
                simp only [List.getD_cons_succ, List.getD_cons_zero] at s7
                clear HAf HA HZ f7
                cases ho
                go_simp
                exact HK.out _ HJ.out
              · intro o ho fs W HFi HAf HJ A HA HZ K' HK
                have f8 : fs 8 = true := by cases ho; exact HAf.out ⟨8, .data⟩ (by simp) rfl
                have s8 := HA.out 8 25 (by decide) f8 rfl
                simp only [List.getD_cons_succ, List.getD_cons_zero] at s8
                clear HAf HA HZ f8
                obtain ⟨c0, c1, c2, c3⟩ := HCx.out W HJ.out
                obtain ⟨d0, d1, d2, d3⟩ := HCy.out W HJ.out
                cases ho
                go_simp
                exact HK.out _ HJ.out
              · intro o ho fs W HFi HAf HJ A HA HZ K' HK
                have f4 : fs 4 = true := by cases ho; exact HAf.out ⟨4, .data⟩ (by simp) rfl
                have s4 := HA.out 4 21 (by decide) f4 rfl
                simp only [List.getD_cons_succ, List.getD_cons_zero] at s4
                have f9 : fs 9 = true := by cases ho; exact HAf.out ⟨9, .data⟩ (by simp) rfl
                have s9 := HA.out 9 26 (by decide) f9 rfl
                simp only [List.getD_cons_succ, List.getD_cons_zero] at s9
                clear HAf HA HZ f4 f9
                cases ho
                go_simp
                exact HK.out _ HJ.out
              · intro o ho fs W HFi HAf HJ A HA HZ K' HK
                have f10 : fs 10 = true := by cases ho; exact HAf.out ⟨10, .data⟩ (by simp) rfl
                have s10 := HA.out 10 27 (by decide) f10 rfl
                simp only [List.getD_cons_succ, List.getD_cons_zero] at s10
                clear HAf HA HZ f10
                cases ho
                go_simp
                exact HK.out _ HJ.out
              · intro o ho fs W HFi HAf HJ A HA HZ K' HK
                have z0 : A.tmps[0]? = some _ := HZ.out 0 (by decide)
                have f11 : fs 11 = true := by cases ho; exact HAf.out ⟨11, .guard⟩ (by simp) rfl
                have s11 := HA.out 11 28 (by decide) f11 rfl
                simp only [List.getD_cons_succ, List.getD_cons_zero] at s11
                clear HAf HA HZ f11
                cases ho
                go_simp
                exact HK.out _ HJ.out
              · intro o ho fs W HFi HAf HJ A HA HZ K' HK
                have z5 : A.tmps[5]? = some _ := HZ.out 5 (by decide)
                have f11 : fs 11 = true := by cases ho; exact HAf.out ⟨11, .guard⟩ (by simp) rfl
                have s11 := HA.out 11 28 (by decide) f11 rfl
                simp only [List.getD_cons_succ, List.getD_cons_zero] at s11
                clear HAf HA HZ f11
                cases ho
                go_simp
                exact HK.out _ HJ.out
              · intro o ho fs W HFi HAf HJ A HA HZ K' HK
                have f12 : fs 12 = true := by cases ho; exact HAf.out ⟨12, .data⟩ (by simp) rfl
                have s12 := HA.out 12 29 (by decide) f12 rfl
                simp only [List.getD_cons_succ, List.getD_cons_zero] at s12
                have f13 : fs 13 = true := by cases ho; exact HAf.out ⟨13, .data⟩ (by simp) rfl
                have s13 := HA.out 13 30 (by decide) f13 rfl
                simp only [List.getD_cons_succ, List.getD_cons_zero] at s13
                have f11 : fs 11 = true := by cases ho; exact HAf.out ⟨11, .guard⟩ (by simp) rfl
                have s11 := HA.out 11 28 (by decide) f11 rfl
                simp only [List.getD_cons_succ, List.getD_cons_zero] at s11
                clear HAf HA HZ f12 f13 f11
                cases ho
                go_simp
                exact HK.out _ HJ.out
              · intro o ho fs W HFi HAf HJ A HA HZ K' HK
                have f14 : fs 14 = true := by cases ho; exact HAf.out ⟨14, .data⟩ (by simp) rfl
                have s14 := HA.out 14 31 (by decide) f14 rfl
                simp only [List.getD_cons_succ, List.getD_cons_zero] at s14
                have f11 : fs 11 = true := by cases ho; exact HAf.out ⟨11, .guard⟩ (by simp) rfl
                have s11 := HA.out 11 28 (by decide) f11 rfl
                simp only [List.getD_cons_succ, List.getD_cons_zero] at s11
                clear HAf HA HZ f14 f11
                cases ho
                go_simp
                exact HK.out _ HJ.out
              · intro o ho fs W HFi HAf HJ A HA HZ K' HK
                have f15 : fs 15 = true := by cases ho; exact HAf.out ⟨15, .data⟩ (by simp) rfl
                have s15 := HA.out 15 32 (by decide) f15 rfl
                simp only [List.getD_cons_succ, List.getD_cons_zero] at s15
                have f11 : fs 11 = true := by cases ho; exact HAf.out ⟨11, .guard⟩ (by simp) rfl
                have s11 := HA.out 11 28 (by decide) f11 rfl
                simp only [List.getD_cons_succ, List.getD_cons_zero] at s11
                clear HAf HA HZ f15 f11
                obtain ⟨c0, c1, c2, c3⟩ := HCx.out W HJ.out
                obtain ⟨d0, d1, d2, d3⟩ := HCy.out W HJ.out
                cases ho
                go_simp
                exact HK.out _ HJ.out
              · intro o ho fs W HFi HAf HJ A HA HZ K' HK
                have z1 : A.tmps[1]? = some _ := HZ.out 1 (by decide)
                have f11 : fs 11 = true := by cases ho; exact HAf.out ⟨11, .guard⟩ (by simp) rfl
                have s11 := HA.out 11 28 (by decide) f11 rfl
                simp only [List.getD_cons_succ, List.getD_cons_zero] at s11
                clear HAf HA HZ f11
                cases ho
                go_simp
                exact HK.out _ HJ.out
              · intro o ho fs W HFi HAf HJ A HA HZ K' HK
                have z5 : A.tmps[5]? = some _ := HZ.out 5 (by decide)
                have f11 : fs 11 = true := by cases ho; exact HAf.out ⟨11, .guard⟩ (by simp) rfl
                have s11 := HA.out 11 28 (by decide) f11 rfl
                simp only [List.getD_cons_succ, List.getD_cons_zero] at s11
                clear HAf HA HZ f11
                cases ho
                go_simp
                exact HK.out _ HJ.out
              · intro o ho fs W HFi HAf HJ A HA HZ K' HK
                have f17 : fs 17 = true := by cases ho; exact HAf.out ⟨17, .data⟩ (by simp) rfl
                have s17 := HA.out 17 34 (by decide) f17 rfl
                simp only [List.getD_cons_succ, List.getD_cons_zero] at s17
                have f18 : fs 18 = true := by cases ho; exact HAf.out ⟨18, .data⟩ (by simp) rfl
                have s18 := HA.out 18 35 (by decide) f18 rfl
                simp only [List.getD_cons_succ, List.getD_cons_zero] at s18
                have f11 : fs 11 = true := by cases ho; exact HAf.out ⟨11, .guard⟩ (by simp) rfl
                have s11 := HA.out 11 28 (by decide) f11 rfl
                simp only [List.getD_cons_succ, List.getD_cons_zero] at s11
                clear HAf HA HZ f17 f18 f11
                cases ho
                go_simp
                exact HK.out _ HJ.out
              · intro o ho fs W HFi HAf HJ A HA HZ K' HK
                have f19 : fs 19 = true := by cases ho; exact HAf.out ⟨19, .data⟩ (by simp) rfl
                have s19 := HA.out 19 36 (by decide) f19 rfl
                simp only [List.getD_cons_succ, List.getD_cons_zero] at s19
                have f11 : fs 11 = true := by cases ho; exact HAf.out ⟨11, .guard⟩ (by simp) rfl
                have s11 := HA.out 11 28 (by decide) f11 rfl
                simp only [List.getD_cons_succ, List.getD_cons_zero] at s11
                clear HAf HA HZ f19 f11
                cases ho
                go_simp
                exact HK.out _ HJ.out
              · intro o ho fs W HFi HAf HJ A HA HZ K' HK
                have f20 : fs 20 = true := by cases ho; exact HAf.out ⟨20, .data⟩ (by simp) rfl
                have s20 := HA.out 20 37 (by decide) f20 rfl
                simp only [List.getD_cons_succ, List.getD_cons_zero] at s20
                have f11 : fs 11 = true := by cases ho; exact HAf.out ⟨11, .guard⟩ (by simp) rfl
                have s11 := HA.out 11 28 (by decide) f11 rfl
                simp only [List.getD_cons_succ, List.getD_cons_zero] at s11
                clear HAf HA HZ f20 f11
                obtain ⟨c0, c1, c2, c3⟩ := HCx.out W HJ.out
                obtain ⟨d0, d1, d2, d3⟩ := HCy.out W HJ.out
                cases ho
                go_simp
                exact HK.out _ HJ.out
              · intro o ho fs W HFi HAf HJ A HA HZ K' HK
                have f16 : fs 16 = true := by cases ho; exact HAf.out ⟨16, .data⟩ (by simp) rfl
                have s16 := HA.out 16 33 (by decide) f16 rfl
                simp only [List.getD_cons_succ, List.getD_cons_zero] at s16
                have f21 : fs 21 = true := by cases ho; exact HAf.out ⟨21, .data⟩ (by simp) rfl
                have s21 := HA.out 21 38 (by decide) f21 rfl
                simp only [List.getD_cons_succ, List.getD_cons_zero] at s21
                have f11 : fs 11 = true := by cases ho; exact HAf.out ⟨11, .guard⟩ (by simp) rfl
                have s11 := HA.out 11 28 (by decide) f11 rfl
                simp only [List.getD_cons_succ, List.getD_cons_zero] at s11
                clear HAf HA HZ f16 f21 f11
                cases ho
                go_simp
                exact HK.out _ HJ.out
              · intro o ho fs W HFi HAf HJ A HA HZ K' HK
                have f11 : fs 11 = true := by cases ho; exact HAf.out ⟨11, .data⟩ (by simp) rfl
                have s11 := HA.out 11 28 (by decide) f11 rfl
                simp only [List.getD_cons_succ, List.getD_cons_zero] at s11
                have f22 : fs 22 = true := by cases ho; exact HAf.out ⟨22, .data⟩ (by simp) rfl
                have s22 := HA.out 22 39 (by decide) f22 rfl
                simp only [List.getD_cons_succ, List.getD_cons_zero] at s22
                clear HAf HA HZ f11 f22
                cases ho
                go_simp
                exact HK.out _ HJ.out
              · intro o ho fs W HFi HAf HJ A HA HZ K' HK
                have f23 : fs 23 = true := by cases ho; exact HAf.out ⟨23, .data⟩ (by simp) rfl
                have s23 := HA.out 23 40 (by decide) f23 rfl
                simp only [List.getD_cons_succ, List.getD_cons_zero] at s23
                clear HAf HA HZ f23
                cases ho
                go_simp
                exact HK.out _ HJ.out
              · intro o ho fs W HFi HAf HJ A HA HZ K' HK
                have z0 : A.tmps[0]? = some _ := HZ.out 0 (by decide)
                have f24 : fs 24 = true := by cases ho; exact HAf.out ⟨24, .guard⟩ (by simp) rfl
                have s24 := HA.out 24 41 (by decide) f24 rfl
                simp only [List.getD_cons_succ, List.getD_cons_zero] at s24
                clear HAf HA HZ f24
                cases ho
                go_simp
                exact HK.out _ HJ.out
              · intro o ho fs W HFi HAf HJ A HA HZ K' HK
                have z5 : A.tmps[5]? = some _ := HZ.out 5 (by decide)
                have f24 : fs 24 = true := by cases ho; exact HAf.out ⟨24, .guard⟩ (by simp) rfl
                have s24 := HA.out 24 41 (by decide) f24 rfl
                simp only [List.getD_cons_succ, List.getD_cons_zero] at s24
                clear HAf HA HZ f24
                cases ho
                go_simp
                exact HK.out _ HJ.out
              · intro o ho fs W HFi HAf HJ A HA HZ K' HK
                have f25 : fs 25 = true := by cases ho; exact HAf.out ⟨25, .data⟩ (by simp) rfl
                have s25 := HA.out 25 42 (by decide) f25 rfl
                simp only [List.getD_cons_succ, List.getD_cons_zero] at s25
                have f26 : fs 26 = true := by cases ho; exact HAf.out ⟨26, .data⟩ (by simp) rfl
                have s26 := HA.out 26 43 (by decide) f26 rfl
                simp only [List.getD_cons_succ, List.getD_cons_zero] at s26
                have f24 : fs 24 = true := by cases ho; exact HAf.out ⟨24, .guard⟩ (by simp) rfl
                have s24 := HA.out 24 41 (by decide) f24 rfl
                simp only [List.getD_cons_succ, List.getD_cons_zero] at s24
                clear HAf HA HZ f25 f26 f24
                cases ho
                go_simp
                exact HK.out _ HJ.out
              · intro o ho fs W HFi HAf HJ A HA HZ K' HK
                have f27 : fs 27 = true := by cases ho; exact HAf.out ⟨27, .data⟩ (by simp) rfl
                have s27 := HA.out 27 44 (by decide) f27 rfl
                simp only [List.getD_cons_succ, List.getD_cons_zero] at s27
                have f24 : fs 24 = true := by cases ho; exact HAf.out ⟨24, .guard⟩ (by simp) rfl
                have s24 := HA.out 24 41 (by decide) f24 rfl
                simp only [List.getD_cons_succ, List.getD_cons_zero] at s24
                clear HAf HA HZ f27 f24
                cases ho
                go_simp
                exact HK.out _ HJ.out
              · intro o ho fs W HFi HAf HJ A HA HZ K' HK
                have f28 : fs 28 = true := by cases ho; exact HAf.out ⟨28, .data⟩ (by simp) rfl
                have s28 := HA.out 28 45 (by decide) f28 rfl
                simp only [List.getD_cons_succ, List.getD_cons_zero] at s28
                have f24 : fs 24 = true := by cases ho; exact HAf.out ⟨24, .guard⟩ (by simp) rfl
                have s24 := HA.out 24 41 (by decide) f24 rfl
                simp only [List.getD_cons_succ, List.getD_cons_zero] at s24
                clear HAf HA HZ f28 f24
                obtain ⟨c0, c1, c2, c3⟩ := HCx.out W HJ.out
                obtain ⟨d0, d1, d2, d3⟩ := HCy.out W HJ.out
                cases ho
                go_simp
                exact HK.out _ HJ.out
              · intro o ho fs W HFi HAf HJ A HA HZ K' HK
                have z1 : A.tmps[1]? = some _ := HZ.out 1 (by decide)
                have f24 : fs 24 = true := by cases ho; exact HAf.out ⟨24, .guard⟩ (by simp) rfl
                have s24 := HA.out 24 41 (by decide) f24 rfl
                simp only [List.getD_cons_succ, List.getD_cons_zero] at s24
                clear HAf HA HZ f24
                cases ho
                go_simp
                exact HK.out _ HJ.out
              · intro o ho fs W HFi HAf HJ A HA HZ K' HK
                have z5 : A.tmps[5]? = some _ := HZ.out 5 (by decide)
                have f24 : fs 24 = true := by cases ho; exact HAf.out ⟨24, .guard⟩ (by simp) rfl
                have s24 := HA.out 24 41 (by decide) f24 rfl
                simp only [List.getD_cons_succ, List.getD_cons_zero] at s24
                clear HAf HA HZ f24
                cases ho
                go_simp
                exact HK.out _ HJ.out
              · intro o ho fs W HFi HAf HJ A HA HZ K' HK
                have f30 : fs 30 = true := by cases ho; exact HAf.out ⟨30, .data⟩ (by simp) rfl
                have s30 := HA.out 30 47 (by decide) f30 rfl
                simp only [List.getD_cons_succ, List.getD_cons_zero] at s30
                have f31 : fs 31 = true := by cases ho; exact HAf.out ⟨31, .data⟩ (by simp) rfl
                have s31 := HA.out 31 48 (by decide) f31 rfl
                simp only [List.getD_cons_succ, List.getD_cons_zero] at s31
                have f24 : fs 24 = true := by cases ho; exact HAf.out ⟨24, .guard⟩ (by simp) rfl
                have s24 := HA.out 24 41 (by decide) f24 rfl
                simp only [List.getD_cons_succ, List.getD_cons_zero] at s24
                clear HAf HA HZ f30 f31 f24
                cases ho
                go_simp
                exact HK.out _ HJ.out
              · intro o ho fs W HFi HAf HJ A HA HZ K' HK
                have f32 : fs 32 = true := by cases ho; exact HAf.out ⟨32, .data⟩ (by simp) rfl
                have s32 := HA.out 32 49 (by decide) f32 rfl
                simp only [List.getD_cons_succ, List.getD_cons_zero] at s32
                have f24 : fs 24 = true := by cases ho; exact HAf.out ⟨24, .guard⟩ (by simp) rfl
                have s24 := HA.out 24 41 (by decide) f24 rfl
                simp only [List.getD_cons_succ, List.getD_cons_zero] at s24
                clear HAf HA HZ f32 f24
                cases ho
                go_simp
                exact HK.out _ HJ.out
              · intro o ho fs W HFi HAf HJ A HA HZ K' HK
                have f33 : fs 33 = true := by cases ho; exact HAf.out ⟨33, .data⟩ (by simp) rfl
                have s33 := HA.out 33 50 (by decide) f33 rfl
                simp only [List.getD_cons_succ, List.getD_cons_zero] at s33
                have f24 : fs 24 = true := by cases ho; exact HAf.out ⟨24, .guard⟩ (by simp) rfl
                have s24 := HA.out 24 41 (by decide) f24 rfl
                simp only [List.getD_cons_succ, List.getD_cons_zero] at s24
                clear HAf HA HZ f33 f24
                obtain ⟨c0, c1, c2, c3⟩ := HCx.out W HJ.out
                obtain ⟨d0, d1, d2, d3⟩ := HCy.out W HJ.out
                cases ho
                go_simp
                exact HK.out _ HJ.out
              · intro o ho fs W HFi HAf HJ A HA HZ K' HK
                have f29 : fs 29 = true := by cases ho; exact HAf.out ⟨29, .data⟩ (by simp) rfl
                have s29 := HA.out 29 46 (by decide) f29 rfl
                simp only [List.getD_cons_succ, List.getD_cons_zero] at s29
                have f34 : fs 34 = true := by cases ho; exact HAf.out ⟨34, .data⟩ (by simp) rfl
                have s34 := HA.out 34 51 (by decide) f34 rfl
                simp only [List.getD_cons_succ, List.getD_cons_zero] at s34
                have f24 : fs 24 = true := by cases ho; exact HAf.out ⟨24, .guard⟩ (by simp) rfl
                have s24 := HA.out 24 41 (by decide) f24 rfl
                simp only [List.getD_cons_succ, List.getD_cons_zero] at s24
                clear HAf HA HZ f29 f34 f24
                cases ho
                go_simp
                exact HK.out _ HJ.out
              · intro o ho fs W HFi HAf HJ A HA HZ K' HK
                have f24 : fs 24 = true := by cases ho; exact HAf.out ⟨24, .data⟩ (by simp) rfl
                have s24 := HA.out 24 41 (by decide) f24 rfl
                simp only [List.getD_cons_succ, List.getD_cons_zero] at s24
                have f35 : fs 35 = true := by cases ho; exact HAf.out ⟨35, .data⟩ (by simp) rfl
                have s35 := HA.out 35 52 (by decide) f35 rfl
                simp only [List.getD_cons_succ, List.getD_cons_zero] at s35
                clear HAf HA HZ f24 f35
                cases ho
                go_simp
                exact HK.out _ HJ.out
            · intro W hJ
              simp only [canon, Act.put, List.getD_cons_succ, List.getD_cons_zero, List.drop_succ_cons, List.drop_zero, List.setIfInBounds_toArray, List.set_cons_zero, List.set_cons_succ]
              have HBW := Lib.hid hJ
              clear hJ
              simp only [wpList]
              refine (‹∀ (a' : Act) (w' : World), Met _ a' w' → _› _ _ ?_)
              go_meet
              exact ⟨by rw [HR.out]; rfl, HBW⟩
        case rest =>
          obtain ⟨rfl, HWc⟩ := hcut
          have HW2 := Lib.hid (bstep HW.out HWc.out)
          clear hs
          cases S with
          | true =>
            have HS2 := Lib.hid (show sameL (a.drop (i + 1)) (b.drop (i + 1)) = r from by have h := HT.out; rw [Bool.true_and] at h; exact h.symm)
            rw [show (!true) = false from rfl]
            go_wp2_with fail
            go_roundw
            case rel => exact ⟨i + 1, by go_num, by omega, HS2, HW2⟩
            case measure => simp only [intOf]; omega
          | false =>
            have HR := Lib.hid (show r = false from by have h := HT.out; rw [Bool.false_and] at h; exact h)
            rw [show (!false) = true from rfl]
            go_wp2_with fail
            go_ret
            exact ⟨by rw [HR.out]; rfl, HW2.out⟩
      · have x1 : ¬ (i : Int) < (a.length : Int) := by omega
        have HR := Lib.hid (show r = true from by
          have h := HS.out
          rw [List.drop_eq_nil_of_le (by omega), List.drop_eq_nil_of_le (by have := HN.out; omega)] at h
          exact h.symm)
        go_wp2_with fail
        go_ret
        exact ⟨by rw [HR.out]; rfl, HW.out⟩
  · have HR := Lib.hid (sameL_len hn)
    generalize sameL a b = r at HR ⊢
    have x1 : ¬ (a.length : Int) = (b.length : Int) := by omega
    clear hn
    go_enter Tryz.func23, Tryz.ntmps23
    go_wp2_with fail
    go_ret
    exact ⟨by rw [HR.out]; rfl, Below.refl _ _⟩
end Go.Proofs.YtmcnhggpmlhgeaaGreatDoor
