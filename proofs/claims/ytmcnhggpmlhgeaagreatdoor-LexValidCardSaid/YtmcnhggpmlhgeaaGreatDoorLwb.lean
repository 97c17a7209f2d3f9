/-
  Walks: equal and great of the law. Walks: rows of tokens that a law appends to; lent and kept.
-/
import Derived.Test.YtmcnhggpmlhgeaaGreatDoorLwA
import Derived.Deep.DeepCutAuto
import Derived.Laws.OwnMore
import Derived.Deep.AppendSrc
namespace Go.Proofs.YtmcnhggpmlhgeaaGreatDoor
open Go.RowKit
/-- are two tokens equal, their offsets too? -/
def eqTk (a b : Tok) : Bool := decide (a.k = b.k) && decide (a.tx = b.tx) && decide (a.n = b.n) && decide (a.pos = b.pos)
def eqL : List Tok → List Tok → Bool
  | [], [] => true
  | a :: r, b :: s => eqTk a b && eqL r s
  | _, _ => false
theorem eqTk_refl (a : Tok) : eqTk a a = true := by unfold eqTk; simp
theorem eqL_refl : ∀ l, eqL l l = true
  | [] => rfl
  | a :: r => by rw [eqL, eqTk_refl, eqL_refl r]; rfl
theorem eqL_len : ∀ {a b : List Tok}, a.length ≠ b.length → eqL a b = false
  | [], [], h => absurd rfl h
  | [], _ :: _, _ => rfl
  | _ :: _, [], _ => rfl
  | x :: a, y :: b, h => by
    rw [eqL, eqL_len (a := a) (b := b) (by simpa using h), Bool.and_false]
theorem eqL_step {a b : List Tok} {i : Nat} (ha : i < a.length) (hb : i < b.length) : eqL (a.drop i) (b.drop i) = (eqTk a[i] b[i] && eqL (a.drop (i + 1)) (b.drop (i + 1))) := by
  rw [List.drop_eq_getElem_cons ha, List.drop_eq_getElem_cons hb, eqL]
set_option maxRecDepth 100000 in
set_option maxHeartbeats 16000000 in
theorem equal_any (B : Nat) (a b : List Tok) (va vb : Value) (w : World) (ha : RdK w B va a) (hb : RdK w B vb b) (hB : B ≤ w.heap.size) :
    Calls Tryz.prog 12 #[va, vb] w fun e w' => e = .returned (.bool (eqL a b)) ∧ Below w.heap.size w w' := by
  obtain ⟨aa, ca, rfl, hca, hla, ha⟩ := ha
  obtain ⟨ab, cb, rfl, hcb, hlb, hb⟩ := hb
  have HA0 := Lib.hid ha
  have HB0 := Lib.hid hb
  clear ha hb
  by_cases hn : a.length = b.length
  · have HS := Lib.hid (show eqL (a.drop 0) (b.drop 0) = eqL a b from rfl)
    generalize eqL a b = r at HS ⊢
    have HN := Lib.hid hn
    rw [← hn]
    clear hn
    go_enter Tryz.func12, Tryz.ntmps12
    go_wp2_with fail
    go_loopw [5] (fun v wr => ∃ i : Nat, v = .int .i64 i ∧ i ≤ a.length ∧ Hid (eqL (a.drop i) (b.drop i) = r) ∧ Hid (Below w.heap.size w wr)) (fun v _ => a.length - (intOf v).toNat)
    case atStart => exact ⟨0, rfl, Nat.zero_le _, HS, Lib.hid (Below.refl _ _)⟩
    case round =>
      obtain ⟨i, rfl, hi, HS, HW⟩ := hrel
      have hz := HW.out.size
      by_cases hlt : i < a.length
      · have x1 : (i : Int) < (a.length : Int) := by omega
        have hne : a ≠ [] := by intro h; subst h; simp at hlt
        have hltb : i < b.length := by have := HN.out; omega
        have hneb : b ≠ [] := by intro h; subst h; simp at hltb
        obtain ⟨b1, o1, rfl, hb1, hc1⟩ := HA0.out hne
        obtain ⟨b2, o2, rfl, hb2, hc2⟩ := HB0.out hneb
        obtain ⟨x, hx⟩ : ∃ x, a[i] = x := ⟨_, rfl⟩
        obtain ⟨y, hy⟩ : ∃ y, b[i] = y := ⟨_, rfl⟩
        have hst := eqL_step hlt hltb
        rw [hx, hy] at hst
        have HT := Lib.hid (HS.out.symm.trans hst)
        obtain ⟨kx, tx, nx, px⟩ := x
        obtain ⟨ky, ty, ny, py⟩ := y
        have HCx := Lib.hid fun W (hb : Below wr.heap.size wr W) => tok_cells (w := W) (fun j u hj => ((cellsB hb (Nat.le_refl _) b1 _ (by omega)).trans (cellsB HW.out hB b1 _ hb1)).trans (hc1 j u hj)) hlt hx
        have HCy := Lib.hid fun W (hb : Below wr.heap.size wr W) => tok_cells (w := W) (fun j u hj => ((cellsB hb (Nat.le_refl _) b2 _ (by omega)).trans (cellsB HW.out hB b2 _ hb2)).trans (hc2 j u hj)) hltb hy
        clear hst hx hy hc1 hc2 hne hneb
        have hs : eqTk ⟨kx, tx, nx, px⟩ ⟨ky, ty, ny, py⟩ = (decide (kx = ky) && decide (tx = ty) && decide (nx = ny) && decide (px = py)) := rfl
        generalize eqTk ⟨kx, tx, nx, px⟩ ⟨ky, ty, ny, py⟩ = S at hs HT
        go_upto_region 6 with (fail)
        go_cut [25] (fun s25 wx => s25 = .bool (!S) ∧ Hid (Below wr.heap.size wr wx))
        case first =>
          by_cases h1 : kx = ky
          · subst h1
            by_cases h2 : tx = ty
            · subst h2
              by_cases h3 : nx = ny
              · subst h3
                by_cases h4 : px = py
                · subst h4
                  have HR := Lib.hid (show S = true from by rw [hs]; simp)
                  clear hs
                  refine' wp_region_fix (by kernel_rfl) 9 [some 17, some 18, some 19, some 20, some 21, some 22, some 23, some 24, some 25] [_, _, _, _, _, _, _, _, _] [] (fun (_ : List Bool) (W : World) => Below wr.heap.size wr W) (by kernel_rfl) (by decide) (by kernel_rfl) (by decide) (by rfl) (by decide) ((Below.refl _ _).drew) ?_ ?_
                  rotate_left 9
                  · refine all_cons 0 ?_ (all_cons 1 ?_ (all_cons 2 ?_ (all_cons 3 ?_ (all_cons 4 ?_ (all_cons 5 ?_ (all_cons 6 ?_ (all_cons 7 ?_ (all_cons 8 ?_ (all_done 9)))))))))
                    · intro o ho fs W HFi HAf HJ A HA HZ K' HK
                      have z0 : A.tmps[0]? = some _ := HZ.out 0 (by decide)
                      clear HAf HA HZ
                      cases ho
                      go_simp
                      exact HK.out _ HJ.out
                    · intro o ho fs W HFi HAf HJ A HA HZ K' HK
                      have z5 : A.tmps[5]? = some _ := HZ.out 5 (by decide)
                      clear HAf HA HZ
                      cases ho
                      go_simp
                      exact HK.out _ HJ.out
                    · intro o ho fs W HFi HAf HJ A HA HZ K' HK
                      have f0 : fs 0 = true := by cases ho; exact HAf.out ⟨0, .data⟩ (by simp) rfl
                      have s0 := HA.out 0 17 (by decide) f0 rfl
                      simp only [List.getD_cons_zero] at s0
                      have f1 : fs 1 = true := by cases ho; exact HAf.out ⟨1, .data⟩ (by simp) rfl
                      have s1 := HA.out 1 18 (by decide) f1 rfl
                      simp only [List.getD_cons_succ, List.getD_cons_zero] at s1
                      clear HAf HA HZ f0 f1
                      cases ho
                      go_simp
                      exact HK.out _ HJ.out
                    · intro o ho fs W HFi HAf HJ A HA HZ K' HK
                      have f2 : fs 2 = true := by cases ho; exact HAf.out ⟨2, .data⟩ (by simp) rfl
                      have s2 := HA.out 2 19 (by decide) f2 rfl
                      simp only [List.getD_cons_succ, List.getD_cons_zero] at s2
                      clear HAf HA HZ f2
                      obtain ⟨c0, c1, c2, c3⟩ := HCx.out W HJ.out
                      obtain ⟨d0, d1, d2, d3⟩ := HCy.out W HJ.out
                      cases ho
                      go_simp
                      exact HK.out _ HJ.out
                    · intro o ho fs W HFi HAf HJ A HA HZ K' HK
                      have z1 : A.tmps[1]? = some _ := HZ.out 1 (by decide)
                      clear HAf HA HZ
                      cases ho
                      go_simp
                      exact HK.out _ HJ.out
                    · intro o ho fs W HFi HAf HJ A HA HZ K' HK
                      have z5 : A.tmps[5]? = some _ := HZ.out 5 (by decide)
                      clear HAf HA HZ
                      cases ho
                      go_simp
                      exact HK.out _ HJ.out
                    · intro o ho fs W HFi HAf HJ A HA HZ K' HK
                      have f4 : fs 4 = true := by cases ho; exact HAf.out ⟨4, .data⟩ (by simp) rfl
                      have s4 := HA.out 4 21 (by decide) f4 rfl
                      simp only [List.getD_cons_succ, List.getD_cons_zero] at s4
                      have f5 : fs 5 = true := by cases ho; exact HAf.out ⟨5, .data⟩ (by simp) rfl
                      have s5 := HA.out 5 22 (by decide) f5 rfl
                      simp only [List.getD_cons_succ, List.getD_cons_zero] at s5
                      clear HAf HA HZ f4 f5
                      cases ho
                      go_simp
                      exact HK.out _ HJ.out
                    · intro o ho fs W HFi HAf HJ A HA HZ K' HK
                      have f6 : fs 6 = true := by cases ho; exact HAf.out ⟨6, .data⟩ (by simp) rfl
                      have s6 := HA.out 6 23 (by decide) f6 rfl
                      simp only [List.getD_cons_succ, List.getD_cons_zero] at s6
                      clear HAf HA HZ f6
                      obtain ⟨c0, c1, c2, c3⟩ := HCx.out W HJ.out
                      obtain ⟨d0, d1, d2, d3⟩ := HCy.out W HJ.out
                      cases ho
                      go_simp
                      exact HK.out _ HJ.out
                    · intro o ho fs W HFi HAf HJ A HA HZ K' HK
                      have f3 : fs 3 = true := by cases ho; exact HAf.out ⟨3, .data⟩ (by simp) rfl
                      have s3 := HA.out 3 20 (by decide) f3 rfl
                      simp only [List.getD_cons_succ, List.getD_cons_zero] at s3
                      have f7 : fs 7 = true := by cases ho; exact HAf.out ⟨7, .data⟩ (by simp) rfl
                      have s7 := HA.out 7 24 (by decide) f7 rfl
                      simp only [List.getD_cons_succ, List.getD_cons_zero] at s7
                      clear HAf HA HZ f3 f7
                      cases ho
                      go_simp
                      exact HK.out _ HJ.out
                  · intro W hJ
                    simp only [canon, Act.put, List.getD_cons_succ, List.getD_cons_zero, List.drop_succ_cons, List.drop_zero, List.setIfInBounds_toArray, List.set_cons_zero, List.set_cons_succ]
                    have HBW := Lib.hid hJ
                    clear hJ
                    simp only [wpList]
                    refine (‹∀ (a' : Act) (w' : World), Met _ a' w' → _› _ _ ?_)
                    go_meet
                    exact ⟨by rw [HR.out]; rfl, HBW⟩
                · have HR := Lib.hid (show S = false from by rw [hs]; simp [h4])
                  have x4 : ¬ px = py := h4
                  clear hs h4
                  refine' wp_region_fix (by kernel_rfl) 9 [some 17, some 18, some 19, some 20, some 21, some 22, some 23, some 24, some 25] [_, _, _, _, _, _, _, _, _] [] (fun (_ : List Bool) (W : World) => Below wr.heap.size wr W) (by kernel_rfl) (by decide) (by kernel_rfl) (by decide) (by rfl) (by decide) ((Below.refl _ _).drew) ?_ ?_
                  rotate_left 9
                  · refine all_cons 0 ?_ (all_cons 1 ?_ (all_cons 2 ?_ (all_cons 3 ?_ (all_cons 4 ?_ (all_cons 5 ?_ (all_cons 6 ?_ (all_cons 7 ?_ (all_cons 8 ?_ (all_done 9)))))))))
                    · intro o ho fs W HFi HAf HJ A HA HZ K' HK
                      have z0 : A.tmps[0]? = some _ := HZ.out 0 (by decide)
                      clear HAf HA HZ
                      cases ho
                      go_simp
                      exact HK.out _ HJ.out
                    · intro o ho fs W HFi HAf HJ A HA HZ K' HK
                      have z5 : A.tmps[5]? = some _ := HZ.out 5 (by decide)
                      clear HAf HA HZ
                      cases ho
                      go_simp
                      exact HK.out _ HJ.out
                    · intro o ho fs W HFi HAf HJ A HA HZ K' HK
                      have f0 : fs 0 = true := by cases ho; exact HAf.out ⟨0, .data⟩ (by simp) rfl
                      have s0 := HA.out 0 17 (by decide) f0 rfl
                      simp only [List.getD_cons_zero] at s0
                      have f1 : fs 1 = true := by cases ho; exact HAf.out ⟨1, .data⟩ (by simp) rfl
                      have s1 := HA.out 1 18 (by decide) f1 rfl
                      simp only [List.getD_cons_succ, List.getD_cons_zero] at s1
                      clear HAf HA HZ f0 f1
                      cases ho
                      go_simp
                      exact HK.out _ HJ.out
                    · intro o ho fs W HFi HAf HJ A HA HZ K' HK
                      have f2 : fs 2 = true := by cases ho; exact HAf.out ⟨2, .data⟩ (by simp) rfl
                      have s2 := HA.out 2 19 (by decide) f2 rfl
                      simp only [List.getD_cons_succ, List.getD_cons_zero] at s2
                      clear HAf HA HZ f2
                      obtain ⟨c0, c1, c2, c3⟩ := HCx.out W HJ.out
                      obtain ⟨d0, d1, d2, d3⟩ := HCy.out W HJ.out
                      cases ho
                      go_simp
                      exact HK.out _ HJ.out
                    · intro o ho fs W HFi HAf HJ A HA HZ K' HK
                      have z1 : A.tmps[1]? = some _ := HZ.out 1 (by decide)
                      clear HAf HA HZ
                      cases ho
                      go_simp
                      exact HK.out _ HJ.out
                    · intro o ho fs W HFi HAf HJ A HA HZ K' HK
                      have z5 : A.tmps[5]? = some _ := HZ.out 5 (by decide)
                      clear HAf HA HZ
                      cases ho
                      go_simp
                      exact HK.out _ HJ.out
                    · intro o ho fs W HFi HAf HJ A HA HZ K' HK
                      have f4 : fs 4 = true := by cases ho; exact HAf.out ⟨4, .data⟩ (by simp) rfl
                      have s4 := HA.out 4 21 (by decide) f4 rfl
                      simp only [List.getD_cons_succ, List.getD_cons_zero] at s4
                      have f5 : fs 5 = true := by cases ho; exact HAf.out ⟨5, .data⟩ (by simp) rfl
                      have s5 := HA.out 5 22 (by decide) f5 rfl
                      simp only [List.getD_cons_succ, List.getD_cons_zero] at s5
                      clear HAf HA HZ f4 f5
                      cases ho
                      go_simp
                      exact HK.out _ HJ.out
                    · intro o ho fs W HFi HAf HJ A HA HZ K' HK
                      have f6 : fs 6 = true := by cases ho; exact HAf.out ⟨6, .data⟩ (by simp) rfl
                      have s6 := HA.out 6 23 (by decide) f6 rfl
                      simp only [List.getD_cons_succ, List.getD_cons_zero] at s6
                      clear HAf HA HZ f6
                      obtain ⟨c0, c1, c2, c3⟩ := HCx.out W HJ.out
                      obtain ⟨d0, d1, d2, d3⟩ := HCy.out W HJ.out
                      cases ho
                      go_simp
                      exact HK.out _ HJ.out
                    · intro o ho fs W HFi HAf HJ A HA HZ K' HK
                      have f3 : fs 3 = true := by cases ho; exact HAf.out ⟨3, .data⟩ (by simp) rfl
                      have s3 := HA.out 3 20 (by decide) f3 rfl
                      simp only [List.getD_cons_succ, List.getD_cons_zero] at s3
                      have f7 : fs 7 = true := by cases ho; exact HAf.out ⟨7, .data⟩ (by simp) rfl
                      have s7 := HA.out 7 24 (by decide) f7 rfl
                      simp only [List.getD_cons_succ, List.getD_cons_zero] at s7
                      clear HAf HA HZ f3 f7
                      cases ho
                      go_simp
                      exact HK.out _ HJ.out
                  · intro W hJ
                    simp only [canon, Act.put, List.getD_cons_succ, List.getD_cons_zero, List.drop_succ_cons, List.drop_zero, List.setIfInBounds_toArray, List.set_cons_zero, List.set_cons_succ]
                    have HBW := Lib.hid hJ
                    clear hJ
                    simp only [wpList]
                    refine (‹∀ (a' : Act) (w' : World), Met _ a' w' → _› _ _ ?_)
                    go_meet
                    exact ⟨by rw [HR.out]; rfl, HBW⟩
              · have HR := Lib.hid (show S = false from by rw [hs]; simp [h3])
                have x3 : ¬ (nx : Int) = (ny : Int) := by omega
                clear hs h3
                refine' wp_region_fix (by kernel_rfl) 9 [some 17, some 18, some 19, some 20, some 21, some 22, some 23, some 24, some 25] [_, _, _, _, _, _, _, _, _] [] (fun (_ : List Bool) (W : World) => Below wr.heap.size wr W) (by kernel_rfl) (by decide) (by kernel_rfl) (by decide) (by rfl) (by decide) ((Below.refl _ _).drew) ?_ ?_
                rotate_left 9
                · refine all_cons 0 ?_ (all_cons 1 ?_ (all_cons 2 ?_ (all_cons 3 ?_ (all_cons 4 ?_ (all_cons 5 ?_ (all_cons 6 ?_ (all_cons 7 ?_ (all_cons 8 ?_ (all_done 9)))))))))
                  · intro o ho fs W HFi HAf HJ A HA HZ K' HK
                    have z0 : A.tmps[0]? = some _ := HZ.out 0 (by decide)
                    clear HAf HA HZ
                    cases ho
                    go_simp
                    exact HK.out _ HJ.out
                  · intro o ho fs W HFi HAf HJ A HA HZ K' HK
                    have z5 : A.tmps[5]? = some _ := HZ.out 5 (by decide)
                    clear HAf HA HZ
                    cases ho
                    go_simp
                    exact HK.out _ HJ.out
                  · intro o ho fs W HFi HAf HJ A HA HZ K' HK
                    have f0 : fs 0 = true := by cases ho; exact HAf.out ⟨0, .data⟩ (by simp) rfl
                    have s0 := HA.out 0 17 (by decide) f0 rfl
                    simp only [List.getD_cons_zero] at s0
                    have f1 : fs 1 = true := by cases ho; exact HAf.out ⟨1, .data⟩ (by simp) rfl
                    have s1 := HA.out 1 18 (by decide) f1 rfl
                    simp only [List.getD_cons_succ, List.getD_cons_zero] at s1
                    clear HAf HA HZ f0 f1
                    cases ho
                    go_simp
                    exact HK.out _ HJ.out
                  · intro o ho fs W HFi HAf HJ A HA HZ K' HK
                    have f2 : fs 2 = true := by cases ho; exact HAf.out ⟨2, .data⟩ (by simp) rfl
                    have s2 := HA.out 2 19 (by decide) f2 rfl
                    simp only [List.getD_cons_succ, List.getD_cons_zero] at s2
                    clear HAf HA HZ f2
                    obtain ⟨c0, c1, c2, c3⟩ := HCx.out W HJ.out
                    obtain ⟨d0, d1, d2, d3⟩ := HCy.out W HJ.out
                    cases ho
                    go_simp
                    exact HK.out _ HJ.out
                  · intro o ho fs W HFi HAf HJ A HA HZ K' HK
                    have z1 : A.tmps[1]? = some _ := HZ.out 1 (by decide)
                    clear HAf HA HZ
                    cases ho
                    go_simp
                    exact HK.out _ HJ.out
                  · intro o ho fs W HFi HAf HJ A HA HZ K' HK
                    have z5 : A.tmps[5]? = some _ := HZ.out 5 (by decide)
                    clear HAf HA HZ
                    cases ho
                    go_simp
                    exact HK.out _ HJ.out
                  · intro o ho fs W HFi HAf HJ A HA HZ K' HK
                    have f4 : fs 4 = true := by cases ho; exact HAf.out ⟨4, .data⟩ (by simp) rfl
                    have s4 := HA.out 4 21 (by decide) f4 rfl
                    simp only [List.getD_cons_succ, List.getD_cons_zero] at s4
                    have f5 : fs 5 = true := by cases ho; exact HAf.out ⟨5, .data⟩ (by simp) rfl
                    have s5 := HA.out 5 22 (by decide) f5 rfl
                    simp only [List.getD_cons_succ, List.getD_cons_zero] at s5
                    clear HAf HA HZ f4 f5
                    cases ho
                    go_simp
                    exact HK.out _ HJ.out
                  · intro o ho fs W HFi HAf HJ A HA HZ K' HK
                    have f6 : fs 6 = true := by cases ho; exact HAf.out ⟨6, .data⟩ (by simp) rfl
                    have s6 := HA.out 6 23 (by decide) f6 rfl
                    simp only [List.getD_cons_succ, List.getD_cons_zero] at s6
                    clear HAf HA HZ f6
                    obtain ⟨c0, c1, c2, c3⟩ := HCx.out W HJ.out
                    obtain ⟨d0, d1, d2, d3⟩ := HCy.out W HJ.out
                    cases ho
                    go_simp
                    exact HK.out _ HJ.out
                  · intro o ho fs W HFi HAf HJ A HA HZ K' HK
                    have f3 : fs 3 = true := by cases ho; exact HAf.out ⟨3, .data⟩ (by simp) rfl
                    have s3 := HA.out 3 20 (by decide) f3 rfl
                    simp only [List.getD_cons_succ, List.getD_cons_zero] at s3
                    have f7 : fs 7 = true := by cases ho; exact HAf.out ⟨7, .data⟩ (by simp) rfl
                    have s7 := HA.out 7 24 (by decide) f7 rfl
                    simp only [List.getD_cons_succ, List.getD_cons_zero] at s7
                    clear HAf HA HZ f3 f7
                    cases ho
                    go_simp
                    exact HK.out _ HJ.out
                · intro W hJ
                  simp only [canon, Act.put, List.getD_cons_succ, List.getD_cons_zero, List.drop_succ_cons, List.drop_zero, List.setIfInBounds_toArray, List.set_cons_zero, List.set_cons_succ]
                  have HBW := Lib.hid hJ
                  clear hJ
                  simp only [wpList]
                  refine (‹∀ (a' : Act) (w' : World), Met _ a' w' → _› _ _ ?_)
                  go_meet
                  exact ⟨by rw [HR.out]; rfl, HBW⟩
            · have HR := Lib.hid (show S = false from by rw [hs]; simp [h2])
              have x2p : ¬ (ba tx).toList = (ba ty).toList := by rw [ba_toList, ba_toList]; exact h2
              clear hs h2
              refine' wp_region_fix (by kernel_rfl) 9 [some 17, some 18, some 19, some 20, some 21, some 22, some 23, some 24, some 25] [_, _, _, _, _, _, _, _, _] [] (fun (_ : List Bool) (W : World) => Below wr.heap.size wr W) (by kernel_rfl) (by decide) (by kernel_rfl) (by decide) (by rfl) (by decide) ((Below.refl _ _).drew) ?_ ?_
              rotate_left 9
              · refine all_cons 0 ?_ (all_cons 1 ?_ (all_cons 2 ?_ (all_cons 3 ?_ (all_cons 4 ?_ (all_cons 5 ?_ (all_cons 6 ?_ (all_cons 7 ?_ (all_cons 8 ?_ (all_done 9)))))))))
                · intro o ho fs W HFi HAf HJ A HA HZ K' HK
                  have z0 : A.tmps[0]? = some _ := HZ.out 0 (by decide)
                  clear HAf HA HZ
                  cases ho
                  go_simp
                  exact HK.out _ HJ.out
                · intro o ho fs W HFi HAf HJ A HA HZ K' HK
                  have z5 : A.tmps[5]? = some _ := HZ.out 5 (by decide)
                  clear HAf HA HZ
                  cases ho
                  go_simp
                  exact HK.out _ HJ.out
                · intro o ho fs W HFi HAf HJ A HA HZ K' HK
                  have f0 : fs 0 = true := by cases ho; exact HAf.out ⟨0, .data⟩ (by simp) rfl
                  have s0 := HA.out 0 17 (by decide) f0 rfl
                  simp only [List.getD_cons_zero] at s0
                  have f1 : fs 1 = true := by cases ho; exact HAf.out ⟨1, .data⟩ (by simp) rfl
                  have s1 := HA.out 1 18 (by decide) f1 rfl
                  simp only [List.getD_cons_succ, List.getD_cons_zero] at s1
                  clear HAf HA HZ f0 f1
                  cases ho
                  go_simp
                  exact HK.out _ HJ.out
                · intro o ho fs W HFi HAf HJ A HA HZ K' HK
                  have f2 : fs 2 = true := by cases ho; exact HAf.out ⟨2, .data⟩ (by simp) rfl
                  have s2 := HA.out 2 19 (by decide) f2 rfl
                  simp only [List.getD_cons_succ, List.getD_cons_zero] at s2
                  clear HAf HA HZ f2
                  obtain ⟨c0, c1, c2, c3⟩ := HCx.out W HJ.out
                  obtain ⟨d0, d1, d2, d3⟩ := HCy.out W HJ.out
                  cases ho
                  go_simp
                  exact HK.out _ HJ.out
                · intro o ho fs W HFi HAf HJ A HA HZ K' HK
                  have z1 : A.tmps[1]? = some _ := HZ.out 1 (by decide)
                  clear HAf HA HZ
                  cases ho
                  go_simp
                  exact HK.out _ HJ.out
                · intro o ho fs W HFi HAf HJ A HA HZ K' HK
                  have z5 : A.tmps[5]? = some _ := HZ.out 5 (by decide)
                  clear HAf HA HZ
                  cases ho
                  go_simp
                  exact HK.out _ HJ.out
                · intro o ho fs W HFi HAf HJ A HA HZ K' HK
                  have f4 : fs 4 = true := by cases ho; exact HAf.out ⟨4, .data⟩ (by simp) rfl
                  have s4 := HA.out 4 21 (by decide) f4 rfl
                  simp only [List.getD_cons_succ, List.getD_cons_zero] at s4
                  have f5 : fs 5 = true := by cases ho; exact HAf.out ⟨5, .data⟩ (by simp) rfl
                  have s5 := HA.out 5 22 (by decide) f5 rfl
                  simp only [List.getD_cons_succ, List.getD_cons_zero] at s5
                  clear HAf HA HZ f4 f5
                  cases ho
                  go_simp
                  exact HK.out _ HJ.out
                · intro o ho fs W HFi HAf HJ A HA HZ K' HK
                  have f6 : fs 6 = true := by cases ho; exact HAf.out ⟨6, .data⟩ (by simp) rfl
                  have s6 := HA.out 6 23 (by decide) f6 rfl
                  simp only [List.getD_cons_succ, List.getD_cons_zero] at s6
                  clear HAf HA HZ f6
                  obtain ⟨c0, c1, c2, c3⟩ := HCx.out W HJ.out
                  obtain ⟨d0, d1, d2, d3⟩ := HCy.out W HJ.out
                  cases ho
                  go_simp
                  exact HK.out _ HJ.out
                · intro o ho fs W HFi HAf HJ A HA HZ K' HK
                  have f3 : fs 3 = true := by cases ho; exact HAf.out ⟨3, .data⟩ (by simp) rfl
                  have s3 := HA.out 3 20 (by decide) f3 rfl
                  simp only [List.getD_cons_succ, List.getD_cons_zero] at s3
                  have f7 : fs 7 = true := by cases ho; exact HAf.out ⟨7, .data⟩ (by simp) rfl
                  have s7 := HA.out 7 24 (by decide) f7 rfl
                  simp only [List.getD_cons_succ, List.getD_cons_zero] at s7
                  clear HAf HA HZ f3 f7
                  cases ho
                  go_simp
                  exact HK.out _ HJ.out
              · intro W hJ
                simp only [canon, Act.put, List.getD_cons_succ, List.getD_cons_zero, List.drop_succ_cons, List.drop_zero, List.setIfInBounds_toArray, List.set_cons_zero, List.set_cons_succ]
                have HBW := Lib.hid hJ
                clear hJ
                simp only [wpList]
                refine (‹∀ (a' : Act) (w' : World), Met _ a' w' → _› _ _ ?_)
                go_meet
                exact ⟨by rw [HR.out]; rfl, HBW⟩
          · have HR := Lib.hid (show S = false from by rw [hs]; simp [h1])
            have x1 : ¬ kx = ky := h1
            clear hs h1
            refine' wp_region_fix (by kernel_rfl) 9 [some 17, some 18, some 19, some 20, some 21, some 22, some 23, some 24, some 25] [_, _, _, _, _, _, _, _, _] [] (fun (_ : List Bool) (W : World) => Below wr.heap.size wr W) (by kernel_rfl) (by decide) (by kernel_rfl) (by decide) (by rfl) (by decide) ((Below.refl _ _).drew) ?_ ?_
            rotate_left 9
            · refine all_cons 0 ?_ (all_cons 1 ?_ (all_cons 2 ?_ (all_cons 3 ?_ (all_cons 4 ?_ (all_cons 5 ?_ (all_cons 6 ?_ (all_cons 7 ?_ (all_cons 8 ?_ (all_done 9)))))))))
              · intro o ho fs W HFi HAf HJ A HA HZ K' HK
                have z0 : A.tmps[0]? = some _ := HZ.out 0 (by decide)
                clear HAf HA HZ
                cases ho
                go_simp
                exact HK.out _ HJ.out
              · intro o ho fs W HFi HAf HJ A HA HZ K' HK
                have z5 : A.tmps[5]? = some _ := HZ.out 5 (by decide)
                clear HAf HA HZ
                cases ho
                go_simp
                exact HK.out _ HJ.out
              · intro o ho fs W HFi HAf HJ A HA HZ K' HK
                have f0 : fs 0 = true := by cases ho; exact HAf.out ⟨0, .data⟩ (by simp) rfl
                have s0 := HA.out 0 17 (by decide) f0 rfl
                simp only [List.getD_cons_zero] at s0
                have f1 : fs 1 = true := by cases ho; exact HAf.out ⟨1, .data⟩ (by simp) rfl
                have s1 := HA.out 1 18 (by decide) f1 rfl
                simp only [List.getD_cons_succ, List.getD_cons_zero] at s1
                clear HAf HA HZ f0 f1
                cases ho
                go_simp
                exact HK.out _ HJ.out
              · intro o ho fs W HFi HAf HJ A HA HZ K' HK
                have f2 : fs 2 = true := by cases ho; exact HAf.out ⟨2, .data⟩ (by simp) rfl
                have s2 := HA.out 2 19 (by decide) f2 rfl
                simp only [List.getD_cons_succ, List.getD_cons_zero] at s2
                clear HAf HA HZ f2
                obtain ⟨c0, c1, c2, c3⟩ := HCx.out W HJ.out
                obtain ⟨d0, d1, d2, d3⟩ := HCy.out W HJ.out
                cases ho
                go_simp
                exact HK.out _ HJ.out
              · intro o ho fs W HFi HAf HJ A HA HZ K' HK
                have z1 : A.tmps[1]? = some _ := HZ.out 1 (by decide)
                clear HAf HA HZ
                cases ho
                go_simp
                exact HK.out _ HJ.out
              · intro o ho fs W HFi HAf HJ A HA HZ K' HK
                have z5 : A.tmps[5]? = some _ := HZ.out 5 (by decide)
                clear HAf HA HZ
                cases ho
                go_simp
                exact HK.out _ HJ.out
              · intro o ho fs W HFi HAf HJ A HA HZ K' HK
                have f4 : fs 4 = true := by cases ho; exact HAf.out ⟨4, .data⟩ (by simp) rfl
                have s4 := HA.out 4 21 (by decide) f4 rfl
                simp only [List.getD_cons_succ, List.getD_cons_zero] at s4
                have f5 : fs 5 = true := by cases ho; exact HAf.out ⟨5, .data⟩ (by simp) rfl
                have s5 := HA.out 5 22 (by decide) f5 rfl
                simp only [List.getD_cons_succ, List.getD_cons_zero] at s5
                clear HAf HA HZ f4 f5
                cases ho
                go_simp
                exact HK.out _ HJ.out
              · intro o ho fs W HFi HAf HJ A HA HZ K' HK
                have f6 : fs 6 = true := by cases ho; exact HAf.out ⟨6, .data⟩ (by simp) rfl
                have s6 := HA.out 6 23 (by decide) f6 rfl
                simp only [List.getD_cons_succ, List.getD_cons_zero] at s6
                clear HAf HA HZ f6
                obtain ⟨c0, c1, c2, c3⟩ := HCx.out W HJ.out
                obtain ⟨d0, d1, d2, d3⟩ := HCy.out W HJ.out
                cases ho
                go_simp
                exact HK.out _ HJ.out
              · intro o ho fs W HFi HAf HJ A HA HZ K' HK
                have f3 : fs 3 = true := by cases ho; exact HAf.out ⟨3, .data⟩ (by simp) rfl
                have s3 := HA.out 3 20 (by decide) f3 rfl
                simp only [List.getD_cons_succ, List.getD_cons_zero] at s3
                have f7 : fs 7 = true := by cases ho; exact HAf.out ⟨7, .data⟩ (by simp) rfl
                have s7 := HA.out 7 24 (by decide) f7 rfl
                simp only [List.getD_cons_succ, List.getD_cons_zero] at s7
                clear HAf HA HZ f3 f7
                cases ho
                go_simp
                exact HK.out _ HJ.out
            · intro W hJ
              simp only [canon, Act.put, List.getD_cons_succ, List.getD_cons_zero, List.drop_succ_cons, List.drop_zero, List.setIfInBounds_toArray, List.set_cons_zero, List.set_cons_succ]
              have HBW := Lib.hid hJ
              clear hJ
              simp only [wpList]
              refine (‹∀ (a' : Act) (w' : World), Met _ a' w' → _› _ _ ?_)
              go_meet
              exact ⟨by rw [HR.out]; rfl, HBW⟩
        case rest =>
          obtain ⟨rfl, HWc⟩ := hcut
          have HW2 := Lib.hid (bstep HW.out HWc.out)
          clear hs
          cases S with
          | true =>
            have HS2 := Lib.hid (show eqL (a.drop (i + 1)) (b.drop (i + 1)) = r from by have h := HT.out; rw [Bool.true_and] at h; exact h.symm)
            rw [show (!true) = false from rfl]
            go_wp2_with fail
            go_roundw
            case rel => exact ⟨i + 1, by go_num, by omega, HS2, HW2⟩
            case measure => simp only [intOf]; omega
          | false =>
            have HR := Lib.hid (show r = false from by have h := HT.out; rw [Bool.false_and] at h; exact h)
            rw [show (!false) = true from rfl]
            go_wp2_with fail
            go_ret
            exact ⟨by rw [HR.out]; rfl, HW2.out⟩
      · have x1 : ¬ (i : Int) < (a.length : Int) := by omega
        have HR := Lib.hid (show r = true from by
          have h := HS.out
          rw [List.drop_eq_nil_of_le (by omega), List.drop_eq_nil_of_le (by have := HN.out; omega)] at h
          exact h.symm)
        go_wp2_with fail
        go_ret
        exact ⟨by rw [HR.out]; rfl, HW.out⟩
  · have HR := Lib.hid (eqL_len hn)
    generalize eqL a b = r at HR ⊢
    have x1 : ¬ (a.length : Int) = (b.length : Int) := by omega
    clear hn
    go_enter Tryz.func12, Tryz.ntmps12
    go_wp2_with fail
    go_ret
    exact ⟨by rw [HR.out]; rfl, Below.refl _ _⟩
/-- what is left of the weight: great answers whether it is below zero -/
def wgt : List Tok → Nat
  | [] => 0
  | t :: r => t.tx.length + 1 + wgt r
theorem wgt_drop {l : List Tok} {i : Nat} (h : i < l.length) : wgt (l.drop i) = l[i].tx.length + 1 + wgt (l.drop (i + 1)) := by
  rw [List.drop_eq_getElem_cons h, wgt]
/-- a slice that reads as these tokens, of any length -/
def RdW (w : World) (B : Nat) (v : Value) (l : List Tok) : Prop := ∃ ao cap, v = .slice ao l.length cap ∧ l.length ≤ cap ∧ l.length ≤ 9223372036854775807 ∧ (l ≠ [] → ∃ b o, ao = some ⟨b, o, none⟩ ∧ b < B ∧ ∀ j u, (tksC l)[j]? = some u → w.cell? ⟨b, o + j, none⟩ = some u)
theorem RdK.wide {w : World} {B : Nat} {v : Value} {l : List Tok} (h : RdK w B v l) : RdW w B v l := by
  obtain ⟨ao, cap, h1, h2, h3, h4⟩ := h
  exact ⟨ao, cap, h1, h2, by omega, h4⟩
theorem RdW.rdk {w : World} {B : Nat} {v : Value} {l : List Tok} (h : RdW w B v l) (hl : l.length ≤ 1000000000) : RdK w B v l := by
  obtain ⟨ao, cap, h1, h2, _, h4⟩ := h
  exact ⟨ao, cap, h1, h2, hl, h4⟩
theorem RdW.below {w w' : World} {B C : Nat} {v : Value} {l : List Tok} (h : RdW w B v l) (hb : Below C w w') (hC : B ≤ C) : RdW w' B v l := by
  obtain ⟨ao, cap, h1, h2, h3, h4⟩ := h
  refine ⟨ao, cap, h1, h2, h3, fun hne => ?_⟩
  obtain ⟨b, o, e, hbB, hc⟩ := h4 hne
  exact ⟨b, o, e, hbB, fun j u hj => (cellsB hb hC b _ hbB).trans (hc j u hj)⟩
set_option maxRecDepth 100000 in
set_option maxHeartbeats 8000000 in
theorem great_any (B : Nat) (l : List Tok) (v : Value) (M : Nat) (hM : M ≤ 1000000) (w : World) (hr : RdW w B v l) (hl : ∀ t ∈ l, t.tx.length ≤ 9223372036854775807) :
    Calls Tryz.prog 13 #[v, .int .i64 (M : Int)] w fun e w' => e = .returned (.bool (decide (M < wgt l))) ∧ w' = w := by
  obtain ⟨ao, cap, rfl, hcap, hlen, hc⟩ := hr
  have HC := Lib.hid hc
  have HL := Lib.hid hl
  have HS := Lib.hid (show decide (M < wgt l) = decide (M < wgt (l.drop 0)) from rfl)
  clear hc hl
  generalize decide (M < wgt l) = R at HS ⊢
  go_enter Tryz.func13, Tryz.ntmps13
  go_wp2_with fail
  go_loop [1, 5] (fun vm v => ∃ (i : Nat) (m : Int), v = .int .i64 i ∧ vm = .int .i64 m ∧ i ≤ l.length ∧ m ≤ 1000000 ∧ -1 ≤ m ∧ Hid (R = decide (m < (wgt (l.drop i) : Int)))) (fun _ v => l.length - (intOf v).toNat)
  case atStart => exact ⟨0, (M : Int), rfl, rfl, Nat.zero_le _, by omega, by omega, Lib.hid (by rw [HS.out]; simp)⟩
  case round =>
    obtain ⟨i, m, rfl, rfl, hi, hm1, hm2, HS⟩ := hrel
    by_cases hlt : i < l.length
    · have x1 : (i : Int) < (l.length : Int) := by omega
      have hne : l ≠ [] := by intro h; subst h; simp at hlt
      obtain ⟨b1, o1, rfl, hb1, hc1⟩ := HC.out hne
      obtain ⟨x, hx⟩ : ∃ x, l[i] = x := ⟨_, rfl⟩
      obtain ⟨c0, c1, c2, c3⟩ := tok_cells hc1 hlt hx
      have hxl := HL.out x (hx ▸ List.getElem_mem hlt)
      have hw := wgt_drop hlt
      rw [hx] at hw
      have sX : ((ba x.tx).size : Int) = (x.tx.length : Int) := by rw [ba_size]
      clear hc1 hne hx
      by_cases hg : m < (x.tx.length : Int)
      · have HR := Lib.hid (show R = true from by rw [HS.out, decide_eq_true_eq]; omega)
        clear hw
        go_wp2_with fail
        go_ret
        exact ⟨by rw [HR.out]; rfl, rfl⟩
      · obtain ⟨m1, hq1⟩ : ∃ m1, IntKind.i64.wrap (m - (x.tx.length : Int)) = m1 := ⟨_, rfl⟩
        have e1 : m1 = m - (x.tx.length : Int) := by rw [← hq1, IntKind.wrap_i64]; omega
        obtain ⟨m2, hq2⟩ : ∃ m2, IntKind.i64.wrap (m1 - 1) = m2 := ⟨_, rfl⟩
        have e2 : m2 = m1 - 1 := by rw [← hq2, IntKind.wrap_i64]; omega
        have HS2 := Lib.hid (show R = decide (m2 < (wgt (l.drop (i + 1)) : Int)) from by rw [HS.out, Bool.eq_iff_iff, decide_eq_true_eq, decide_eq_true_eq]; omega)
        have b1 : m2 ≤ 1000000 := by omega
        have b2 : -1 ≤ m2 := by omega
        clear hw e1 e2
        go_wp2_with fail
        go_round
        case rel => exact ⟨i + 1, m2, by go_num, rfl, by omega, b1, b2, HS2⟩
        case measure => simp only [intOf]; omega
    · have x1 : ¬ (i : Int) < (l.length : Int) := by omega
      have hR : R = decide (m < 0) := by rw [HS.out, List.drop_eq_nil_of_le (by omega)]; rfl
      by_cases h0 : m < 0
      · have HR := Lib.hid (show R = true from by rw [hR, decide_eq_true h0])
        clear hR
        go_wp2_with fail
        go_ret
        exact ⟨by rw [HR.out]; rfl, rfl⟩
      · have HR := Lib.hid (show R = false from by rw [hR, decide_eq_false h0])
        clear hR
        go_wp2_with fail
        go_ret
        exact ⟨by rw [HR.out]; rfl, rfl⟩
end Go.Proofs.YtmcnhggpmlhgeaaGreatDoor
namespace Go.Proofs.YtmcnhggpmlhgeaaGreatDoor
open Go.RowKit
theorem tksC_cells (m : List Tok) : ∀ u ∈ tksC m, u.oneCell' = true := by
  induction m with
  | nil => intro u hu; cases hu
  | cons t m ih =>
    intro u hu
    rcases List.mem_append.1 (show u ∈ tkC t ++ tksC m from hu) with h | h
    · exact tkC_cell t u h
    · exact ih u h
theorem append_run (w : World) (base g cap : Nat) (l m : List Tok) (B : Nat) (u : Value) (hown : OwnK base (.slice (some ⟨g, 0, none⟩) l.length cap) l w) (hr : RdK w B u m) (hlen : l.length + m.length ≤ 1000000000) (hbase : base ≤ w.heap.size) :
    ∃ g' cap' w', (Builtin.append_ #[23, 23] 23 #[.slice (some ⟨g, 0, none⟩) l.length cap, u]).run Tryz.prog w = .ok (.slice (some ⟨g', 0, none⟩) (l.length + m.length) cap') w' ∧ OwnK base (.slice (some ⟨g', 0, none⟩) (l.length + m.length) cap') (l ++ m) w' ∧ Below base w w' ∧ l.length + m.length ≤ cap' := by
  obtain ⟨i0, hi0, hk0⟩ := Option.map_eq_some_iff.1 Tryz.tokinfo
  simp only [Prod.mk.injEq] at hk0
  obtain ⟨iz0, iz1, iz2⟩ := hk0
  obtain ⟨ao, c, rfl, hmc, -, hc⟩ := hr
  have hcap : l.length ≤ cap ∧ base ≤ g := by
    rcases hown.2 with ⟨e, _⟩ | ⟨g', cap', cur, e, hb, _, h1, _⟩
    · cases e
    · injection e with e1 e2 e3
      injection e1 with e1
      injection e1 with e1
      omega
  have fin : ∀ (v' : Value) (w' : World), w'.ownsRow base 36 4 v' (l.length + m.length) (tksC l ++ tksC m) → w.grownBy w' (some g) → v' ≠ .slice none 0 0 → ∃ g' cap', v' = .slice (some ⟨g', 0, none⟩) (l.length + m.length) cap' ∧ OwnK base (.slice (some ⟨g', 0, none⟩) (l.length + m.length) cap') (l ++ m) w' ∧ Below base w w' ∧ l.length + m.length ≤ cap' := by
    intro v' w' h2 h3 h4
    have hB : Below base w w' := (Below.refl base w).grown h3 hbase (fun k hk => by injection hk with hk; omega)
    rcases h2.2 with ⟨e, _⟩ | ⟨g', cap', cur, e, h5, h6, h7, h8⟩
    · exact absurd e h4
    · subst e
      refine ⟨g', cap', rfl, ?_, hB, h7⟩
      unfold OwnK
      rw [List.length_append, tksC_app]
      exact h2
  by_cases hm : m = []
  · subst hm
    cases ao with
    | none =>
      have hrun := run_append_room_src (P := Tryz.prog) w 23 23 23 36 i0 Tryz.underlying23 hi0 g 0 l.length cap (.slice none 0 c) 0 [] (by rw [iz1]; exact Src.ofNil w Tryz.underlying23 c) (by omega) (fun j hj => by cases hj) (fun j hj => by cases hj)
      refine ⟨g, cap, w, hrun, ?_, Below.refl _ _, hcap.1⟩
      rw [List.append_nil]; exact hown
    | some ad =>
      obtain ⟨v', w', h1, h2, h3, h4⟩ := run_append_own (P := Tryz.prog) w base 23 23 36 i0 _ 4 40 Tryz.underlying23 hi0 iz0 iz1 iz2 rfl (by decide) _ l.length (tksC l) hown ad 0 c [] rfl (fun j u hj => by simp at hj) (fun u hu => by cases hu) (by simp only [maxLen, List.length_nil] at *; omega) (by simp only [List.length_nil] at *; omega) hbase
      obtain ⟨g', cap', rfl, h5, h6, h7⟩ := fin v' w' h2 h3 (fun e => by have := (h4.1 e).1; cases this)
      exact ⟨g', cap', w', h1, h5, h6, h7⟩
  · obtain ⟨b, o, rfl, hbB, hcc⟩ := hc hm
    obtain ⟨v', w', h1, h2, h3, h4⟩ := run_append_own (P := Tryz.prog) w base 23 23 36 i0 _ 4 40 Tryz.underlying23 hi0 iz0 iz1 iz2 rfl (by decide) _ l.length (tksC l) hown ⟨b, o, none⟩ m.length c (tksC m) (tksC_len m) (fun j u hj => by rw [Lib.add_plain]; exact hcc j u hj) (tksC_cells m) (by simp only [maxLen]; omega) (by omega) hbase
    obtain ⟨g', cap', rfl, h5, h6, h7⟩ := fin v' w' h2 h3 (fun e => by have := (h4.1 e).1; cases this)
    exact ⟨g', cap', w', h1, h5, h6, h7⟩
theorem wpList_append_tok {ops : Array Oper} {rest : List Oper} {o : Oper} {a : Act} {w : World} {Q : Exit → Act → World → Prop} (hgd : o.guard = none) (s x : Operand)
    (ho : o.op = .call { callee := .builtin .append, args := #[s, x], argTypes := #[23, 23] }) (ht : o.type = 23) (v u v' : Value) (w' : World) (hs : a.eval s = v) (hx : a.eval x = u)
    (hrun : (Builtin.append_ #[23, 23] 23 #[v, u]).run Tryz.prog w = .ok v' w') (h : wpList Tryz.prog ops Q rest (a.put o.dst v') w') : wpList Tryz.prog ops Q (o :: rest) a w := by
  refine wpList_plain hgd fun K hK => ?_
  unfold Oper.wp
  simp only [execOp, ho, ht, resolve, invoke, builtin, Sem.run_bind, Sem.run_pure, Result.andThen_ok, List.map_toArray, List.map_cons, List.map_nil, hs, hx, hrun]
  exact hK _ _ h
/-- the mark behind what is lent -/
def mkT : Tok := ⟨-7, [], 0, 0⟩
/-- a row that reads as these tokens and has the mark behind them -/
def LentK (w : World) (B : Nat) (v : Value) (l : List Tok) : Prop := ∃ g cap, v = .slice (some ⟨g, 0, none⟩) l.length cap ∧ l.length + 1 ≤ cap ∧ l.length ≤ 100000000 ∧ g < B ∧ ∀ j u, (tksC (l ++ [mkT]))[j]? = some u → w.cell? ⟨g, j, none⟩ = some u
theorem LentK.below {w w' : World} {B C : Nat} {v : Value} {l : List Tok} (h : LentK w B v l) (hb : Below C w w') (hC : B ≤ C) : LentK w' B v l := by
  obtain ⟨g, cap, h1, h2, h3, h4, h5⟩ := h
  exact ⟨g, cap, h1, h2, h3, h4, fun j u hj => (cellsB hb hC g _ h4).trans (h5 j u hj)⟩
theorem LentK.rdk {w : World} {B : Nat} {v : Value} {l : List Tok} (h : LentK w B v l) : RdK w B v l := by
  obtain ⟨g, cap, h1, h2, h3, h4, h5⟩ := h
  refine ⟨_, cap, h1, by omega, by omega, fun _ => ⟨g, 0, rfl, h4, fun j u hj => ?_⟩⟩
  rw [Nat.zero_add]
  refine h5 j u ?_
  rw [tksC_app, List.getElem?_append_left]
  · exact hj
  · rcases Nat.lt_or_ge j (tksC l).length with h | h
    · exact h
    · rw [List.getElem?_eq_none h] at hj; cases hj
set_option maxRecDepth 100000 in
set_option maxHeartbeats 8000000 in
theorem lent_any (B : Nat) (l : List Tok) (v : Value) (w : World) (hr : RdK w B v l) (hB : B ≤ w.heap.size) (hl : l.length ≤ 100000000) :
    Calls Tryz.prog 14 #[v] w fun e w' => ∃ v', e = .returned v' ∧ LentK w' w'.heap.size v' l ∧ Below w.heap.size w w' := by
  obtain ⟨i0, hi0, hk0⟩ := Option.map_eq_some_iff.1 Tryz.tokinfo
  simp only [Prod.mk.injEq] at hk0
  obtain ⟨iz0, iz1, iz2⟩ := hk0
  obtain ⟨w1, hrun1, hown1, hg1⟩ := run_make_own (P := Tryz.prog) w w.heap.size 23 36 i0 _ 4 Tryz.underlying23 hi0 iz0 iz1 .i64 .i64 (l.length + 1) (by rw [iz2]; omega) (by unfold maxLen; omega) (Nat.le_refl _)
  have hb1 : Below w.heap.size w w1 := (Below.refl _ w).grown hg1 (Nat.le_refl _) (fun k hk => by cases hk)
  have hr1 := hr.below hb1 hB
  obtain ⟨g2, cap2, w2, hrun2, hown2, hb2, hc2⟩ := append_run w1 w.heap.size w.heap.size (l.length + 1) [] l B v hown1 hr1 (by simp only [List.length_nil]; omega) hb1.size
  simp only [List.length_nil, Nat.zero_add, List.nil_append] at hrun2 hown2 hc2
  obtain ⟨ao, cap, rfl, hcap, -, hc⟩ := hr
  have hM := heap_alloc_new w2 (.cells #[.int .i64 (-7), .string ⟨#[]⟩, .int .u64 0, .int .i64 0] 36 (0, 0))
  have hown3 := hown2.below (below_alloc w2 (.cells #[.int .i64 (-7), .string ⟨#[]⟩, .int .u64 0, .int .i64 0] 36 (0, 0)))
  have hb3 := balloc (hb1.trans hb2) (.cells #[.int .i64 (-7), .string ⟨#[]⟩, .int .u64 0, .int .i64 0] 36 (0, 0))
  have hrM : RdK (w2.alloc (.cells #[.int .i64 (-7), .string ⟨#[]⟩, .int .u64 0, .int .i64 0] 36 (0, 0))) (w2.heap.size + 1) (.slice (some ⟨w2.heap.size, 0, none⟩) 1 1) [mkT] := by
    refine ⟨_, 1, rfl, Nat.le_refl _, by simp, fun _ => ⟨w2.heap.size, 0, rfl, by omega, fun j u hj => ?_⟩⟩
    rw [cells_of hM, Nat.zero_add, List.getElem?_toArray]
    exact hj
  obtain ⟨g4, cap4, w4, hrun4, hown4, hb4, hc4⟩ := append_run _ w.heap.size g2 cap2 l [mkT] _ _ hown3 hrM (by simp only [List.length_singleton]; omega) hb3.size
  simp only [List.length_singleton] at hrun4 hown4 hc4
  have hb5 := hb3.trans hb4
  have HRet := Lib.hid (show LentK w4 w4.heap.size (.slice (some ⟨g4, 0, none⟩) l.length cap4) l from by
    refine ⟨g4, cap4, rfl, hc4, hl, ?_, fun j u hj => ?_⟩
    · rcases hown4.2 with ⟨e, _⟩ | ⟨g', cap', cur, e, _, h6, _⟩
      · cases e
      · injection e with e1 e2 e3
        injection e1 with e1
        injection e1 with e1
        subst e1
        exact lt_of_block h6
    · obtain ⟨ao5, cap5, e5, h5, -, h6⟩ := hown4.rdk (l := l ++ [mkT]) (by simp; omega)
      injection e5 with e1 e2 e3
      obtain ⟨b, o, e7, h7, h8⟩ := h6 (by simp)
      rw [← e1] at e7
      injection e7 with e7
      injection e7 with e7 e9
      subst e7 e9
      have := h8 j u hj
      rwa [Nat.zero_add] at this)
  have HB5 := Lib.hid hb5
  have xc : (l.length : Int) ≤ (cap4 : Int) := by omega
  have xc2 : l.length ≤ cap4 := by omega
  have xn : (((l.length + 1 : Nat)) : Int) = (l.length : Int) + 1 := by omega
  rw [xn] at hrun1
  have HRun2 := Lib.hid hrun2
  have HRun4 := Lib.hid hrun4
  clear hrun2 hrun4 hc hM hown3 hb3 hrM hown4 hb4 hc4 hown2 hb2 hc2 hr1 hb1 hown1 hg1 hi0 iz0 iz1 iz2 xn hb5
  go_enter Tryz.func14, Tryz.ntmps14
  go_wp2_with (at_builtin; first | (refine wpList_append_tok rfl _ _ rfl rfl _ _ _ _ rfl rfl HRun2.out ?_) | (refine wpList_append_tok rfl _ _ rfl rfl _ _ _ _ rfl rfl HRun4.out ?_))
  go_ret
  exact ⟨_, rfl, HRet.out, HB5.out⟩
end Go.Proofs.YtmcnhggpmlhgeaaGreatDoor
