/-
  Walks: the reference: Join.
-/
import Derived.Test.YtmcnhggpmlhgeaaGreatDoorRfJ
import Derived.Test.YtmcnhggpmlhgeaaGreatDoorRfH
import Derived.Test.YtmcnhggpmlhgeaaGreatDoorRpK
import Derived.Test.YtmcnhggpmlhgeaaGreatDoorLwP
namespace Go.Proofs.YtmcnhggpmlhgeaaGreatDoor
open Go.RowKit
theorem sameTk_comm (a b : Tok) : sameTk a b = sameTk b a := by
  rw [Bool.eq_iff_iff, sameTk_iff, sameTk_iff]
  constructor <;> rintro ⟨h1, h2, h3⟩ <;> exact ⟨h1.symm, h2.symm, h3.symm⟩
theorem sameL_comm : ∀ a b : List Tok, sameL a b = sameL b a
  | [], [] => rfl
  | [], _ :: _ => rfl
  | _ :: _, [] => rfl
  | x :: a, y :: b => by rw [sameL, sameL, sameTk_comm x y, sameL_comm a b]
theorem spec_join {a b : Tok} (h : spec a b = true) : joinB a b = true := by
  obtain ⟨h1, h2, h3, h4⟩ := (spec_iff a b).1 h
  have ha : textTk a = [61] := by rw [text_plain (by omega) (by omega), h2]
  have hx : (textTk a).getLast? = some 61 := by rw [ha]; rfl
  rcases h4 with h4 | h4
  · have hb : textTk b = [58] := by rw [text_plain (by omega) (by omega), h4]
    rw [joinB_eq hx hb, if_neg (by decide), if_neg (by omega), if_pos ⟨ha, .inl hb⟩]
  · have hb : textTk b = [47] := by rw [text_plain (by omega) (by omega), h4]
    rw [joinB_eq hx hb, if_neg (by decide), if_neg (by omega), if_pos ⟨ha, .inr hb⟩]
theorem apR_eq {a b : Tok} (ha : validTk a = true) (hb : validTk b = true) (hl : (textTk a ++ textTk b).length ≤ 65536) : apR a b = joinB a b := by
  have hp := scan_pair ha hb (textTk a ++ textTk b).length
  rw [← scanL_eq hl] at hp
  unfold apR
  cases hs : spec a b with
  | true => rw [Bool.true_or, spec_join hs]
  | false =>
    rw [Bool.false_or]
    rw [hs] at hp
    cases hsc : scanL (textTk a ++ textTk b) with
    | bad p e =>
      cases hj : joinB a b with
      | true => rfl
      | false =>
        obtain ⟨m, h1, -⟩ := hp.2 (.inl hj)
        rw [hsc] at h1; cases h1
    | ok m =>
      show (!sameL m [a, b]) = joinB a b
      rw [sameL_comm]
      cases hj : joinB a b with
      | false =>
        obtain ⟨m2, h1, h2⟩ := hp.2 (.inl hj)
        rw [hsc] at h1
        injection h1 with h1
        rw [h1, h2]; rfl
      | true =>
        cases hm : sameL [a, b] m with
        | false => rfl
        | true =>
          rcases hp.1 ⟨m, hsc, hm⟩ with h | h
          · rw [hj] at h; cases h
          · cases h
/-- the blank that the reference sets -/
def gapR (l : List Tok) (i : Nat) : Bool := match i with
  | 0 => false
  | i + 1 => match l[i]?, l[i + 1]? with
    | some a, some b => apR a b
    | _, _ => false
theorem gap_step (l : List Tok) (hv : l.all validTk = true) (i : Nat) (h : i < l.length) : joinTk (l.take i) ++ ((if gapR l i then [32] else []) ++ textTk l[i]) = joinTk (l.take (i + 1)) ∨ (65536 < (joinTk (l.take i) ++ ((if gapR l i then [32] else []) ++ textTk l[i])).length ∧ 65536 < (joinTk (l.take (i + 1))).length) := by
  rw [join_step l i h]
  cases i with
  | zero => exact .inl rfl
  | succ i =>
    have h1 : i < l.length := by omega
    have hg : gapB l (i + 1) = joinB l[i] l[i + 1] := by
      unfold gapB
      simp only [List.getElem?_eq_getElem h1, List.getElem?_eq_getElem h]
    have hr : gapR l (i + 1) = apR l[i] l[i + 1] := by
      unfold gapR
      simp only [List.getElem?_eq_getElem h1, List.getElem?_eq_getElem h]
    have hv2 := List.all_eq_true.1 hv
    rcases Nat.lt_or_ge 65536 (textTk l[i] ++ textTk l[i + 1]).length with h2 | h2
    · right
      have h3 := join_has l i h1
      rw [List.length_append] at h2
      constructor <;> (rw [List.length_append, List.length_append]; omega)
    · left
      rw [hg, hr, apR_eq (hv2 _ (List.getElem_mem h1)) (hv2 _ (List.getElem_mem h)) h2]
theorem valid_n {t : Tok} (h : validTk t = true) : t.n ≤ 9223372036854775808 := by
  rcases valid_cases h with ⟨-, -, h⟩ | ⟨h, -⟩
  · exact h
  · omega
set_option maxRecDepth 100000 in
set_option maxHeartbeats 16000000 in
theorem Join_r (B0 : Nat) (l : List Tok) (v : Value) (w : World) (hr : RdK w B0 v l) (hB0 : B0 ≤ w.heap.size) (hl : ∀ t ∈ l, t.tx.length ≤ 1000000) :
    Calls Tryz.prog 16 #[v] w fun e w' => e = joinV (joinR l) ∧ Below w.heap.size w w' := by
  obtain ⟨ao, cap, rfl, hcap, hlen, hc⟩ := hr
  have HC := Lib.hid hc
  have HL := Lib.hid hl
  clear hc hl
  go_enter Tryz.func16, Tryz.ntmps16
  go_wp2_with fail
  go_loopw [4] (fun v wr => ∃ i : Nat, v = .int .i64 i ∧ i ≤ l.length ∧ Hid (l.all validTk = (l.drop i).all validTk) ∧ Hid (Below w.heap.size w wr)) (fun v _ => l.length - (intOf v).toNat)
  case atStart => exact ⟨0, rfl, Nat.zero_le _, Lib.hid rfl, Lib.hid (Below.refl _ _)⟩
  case round =>
    obtain ⟨i, rfl, hi, HS, HW⟩ := hrel
    have hz := HW.out.size
    by_cases hlt : i < l.length
    · have x1 : (i : Int) < (l.length : Int) := by omega
      have hne : l ≠ [] := by intro h; subst h; simp at hlt
      obtain ⟨b1, o1, rfl, hb1, hc1⟩ := HC.out hne
      obtain ⟨x, hx⟩ : ∃ x, l[i] = x := ⟨_, rfl⟩
      obtain ⟨c0, c1, c2, c3⟩ := tok_cells (w := wr) (fun j u hj => (cellsB HW.out hB0 b1 _ hb1).trans (hc1 j u hj)) hlt hx
      have HS1 := Lib.hid (show l.all validTk = (validTk x && (l.drop (i + 1)).all validTk) from by rw [HS.out, List.drop_eq_getElem_cons hlt, hx, List.all_cons])
      have HBd := Lib.hid (Valid_r x wr (HL.out x (hx ▸ List.getElem_mem hlt)))
      clear hc1 hne hx
      go_wp2_with fail
      refine HBd.out.mono ?_
      rintro e w1 ⟨rfl, hb⟩
      have HW1 := Lib.hid (bstep HW.out hb)
      clear hb c0 c1 c2 c3
      cases hv : validTk x with
      | true =>
        have HS2 := Lib.hid (show l.all validTk = (l.drop (i + 1)).all validTk from by rw [HS1.out, hv, Bool.true_and])
        clear hv
        go_wp2_with fail
        go_roundw
        case rel => exact ⟨i + 1, by go_num, by omega, HS2, HW1⟩
        case measure => simp only [intOf]; omega
      | false =>
        have HR := Lib.hid (joinR_bad (show l.all validTk = false from by rw [HS1.out, hv, Bool.false_and]))
        clear hv
        go_wp2_with fail
        go_ret2
        exact ⟨by rw [HR.out]; rfl, HW1.out⟩
    · have x1 : ¬ (i : Int) < (l.length : Int) := by omega
      have HVA := Lib.hid (show l.all validTk = true from by rw [HS.out, List.drop_eq_nil_of_le (by omega)]; rfl)
      have HV := Lib.hid (List.all_eq_true.1 HVA.out)
      have HW0 := HW
      have hz0 := hz
      go_wp2_with fail
      clear x1 HS hlt hi HW hz
      go_loopw [5, 6] (fun vo v wr => ∃ i : Nat, v = .int .i64 i ∧ vo = .string (ba (joinTk (l.take i))) ∧ i ≤ l.length ∧ (joinTk (l.take i)).length ≤ 65536 ∧ Hid (Below w.heap.size w wr)) (fun _ v _ => l.length - (intOf v).toNat)
      case atStart => exact ⟨0, rfl, by rw [List.take_zero]; rfl, Nat.zero_le _, by rw [List.take_zero]; decide, HW0⟩
      case round =>
        obtain ⟨i, rfl, rfl, hi, hout, HW⟩ := hrel
        clear HW0 hz0
        have hz := HW.out.size
        by_cases hlt : i < l.length
        · have x1 : (i : Int) < (l.length : Int) := by omega
          have hne : l ≠ [] := by intro h; subst h; simp at hlt
          obtain ⟨b1, o1, rfl, hb1, hc1⟩ := HC.out hne
          obtain ⟨x, hx⟩ : ∃ x, l[i] = x := ⟨_, rfl⟩
          have hxm : x ∈ l := hx ▸ List.getElem_mem hlt
          have hst := gap_step l HVA.out i hlt
          rw [hx] at hst
          generalize hG : gapR l i = G at hst
          have HST := Lib.hid hst
          have HGB := Lib.hid hG
          have HX := Lib.hid hx
          have HXc := Lib.hid fun W (hb : Below wr.heap.size wr W) => tok_cells (w := W) (fun j u hj => ((cellsB hb (Nat.le_refl _) b1 _ (by omega)).trans (cellsB HW.out hB0 b1 _ hb1)).trans (hc1 j u hj)) hlt hx
          clear hst hG hx
          go_upto_region 10 with (fail)
          go_cut [38] (fun s38 wx => s38 = .bool G ∧ Hid (Below wr.heap.size wr wx))
          case first =>
            by_cases hi0 : i = 0
            · have HGf := Lib.hid (show G = false from by rw [← HGB.out, hi0]; rfl)
              subst hi0
              refine' wp_region_fix (by kernel_rfl) 14 [some 25, some 26, some 27, some 28, some 29, some 30, some 31, some 32, some 33, some 34, some 35, some 36, some 37, some 38] [_, _, _, _, _, _, _, _, _, _, _, _, _, _] [] (fun (_ : List Bool) (W : World) => Below wr.heap.size wr W) (by kernel_rfl) (by decide) (by kernel_rfl) (by decide) (by rfl) (by decide) ((Below.refl _ _).drew) ?_ ?_
              rotate_left 14
              · refine all_cons 0 ?_ (all_cons 1 ?_ (all_cons 2 ?_ (all_cons 3 ?_ (all_cons 4 ?_ (all_cons 5 ?_ (all_cons 6 ?_ (all_cons 7 ?_ (all_cons 8 ?_ (all_cons 9 ?_ (all_cons 10 ?_ (all_cons 11 ?_ (all_cons 12 ?_ (all_cons 13 ?_ (all_done 14))))))))))))))
                · intro o ho fs W HFi HAf HJ A HA HZ K' HK
                  have z6 : A.tmps[6]? = some _ := HZ.out 6 (by decide)
                  clear HAf HA HZ
                  cases ho
                  go_simp
                  exact HK.out _ HJ.out
                · intro o ho fs W HFi HAf HJ A HA HZ K' HK
                  have f0 : fs 0 = true := by cases ho; exact HAf.out ⟨0, .data⟩ (by simp) rfl
                  have s0 := HA.out 0 25 (by decide) f0 rfl
                  simp only [List.getD_cons_zero] at s0
                  clear HAf HA HZ f0
                  cases ho
                  go_simp
                  exact HK.out _ HJ.out
                · intro o ho fs W HFi HAf HJ A HA HZ K' HK
                  have f1 : fs 1 = true := by cases ho; exact HAf.out ⟨1, .data⟩ (by simp) rfl
                  have s1 := HA.out 1 26 (by decide) f1 rfl
                  simp only [List.getD_cons_succ, List.getD_cons_zero] at s1
                  clear HAf HA HZ f1
                  cases ho
                  go_simp
                  exact HK.out _ HJ.out
                · intro o ho fs W HFi HAf HJ A HA HZ K' HK
                  have z0 : A.tmps[0]? = some _ := HZ.out 0 (by decide)
                  have f2 : fs 2 = true := by cases ho; exact HAf.out ⟨2, .guard⟩ (by simp) rfl
                  have s2 := HA.out 2 27 (by decide) f2 rfl
                  simp only [List.getD_cons_succ, List.getD_cons_zero] at s2
                  clear HAf HA HZ f2
                  cases ho
                  go_simp
                  exact HK.out _ HJ.out
                · intro o ho fs W HFi HAf HJ A HA HZ K' HK
                  have z6 : A.tmps[6]? = some _ := HZ.out 6 (by decide)
                  have f2 : fs 2 = true := by cases ho; exact HAf.out ⟨2, .guard⟩ (by simp) rfl
                  have s2 := HA.out 2 27 (by decide) f2 rfl
                  simp only [List.getD_cons_succ, List.getD_cons_zero] at s2
                  clear HAf HA HZ f2
                  cases ho
                  go_simp
                  exact HK.out _ HJ.out
                · intro o ho fs W HFi HAf HJ A HA HZ K' HK
                  have f4 : fs 4 = true := by cases ho; exact HAf.out ⟨4, .data⟩ (by simp) rfl
                  have s4 := HA.out 4 29 (by decide) f4 rfl
                  simp only [List.getD_cons_succ, List.getD_cons_zero] at s4
                  have f2 : fs 2 = true := by cases ho; exact HAf.out ⟨2, .guard⟩ (by simp) rfl
                  have s2 := HA.out 2 27 (by decide) f2 rfl
                  simp only [List.getD_cons_succ, List.getD_cons_zero] at s2
                  clear HAf HA HZ f4 f2
                  cases ho
                  go_simp
                  exact HK.out _ HJ.out
                · intro o ho fs W HFi HAf HJ A HA HZ K' HK
                  have f3 : fs 3 = true := by cases ho; exact HAf.out ⟨3, .data⟩ (by simp) rfl
                  have s3 := HA.out 3 28 (by decide) f3 rfl
                  simp only [List.getD_cons_succ, List.getD_cons_zero] at s3
                  have f5 : fs 5 = true := by cases ho; exact HAf.out ⟨5, .data⟩ (by simp) rfl
                  have s5 := HA.out 5 30 (by decide) f5 rfl
                  simp only [List.getD_cons_succ, List.getD_cons_zero] at s5
                  have f2 : fs 2 = true := by cases ho; exact HAf.out ⟨2, .guard⟩ (by simp) rfl
                  have s2 := HA.out 2 27 (by decide) f2 rfl
                  simp only [List.getD_cons_succ, List.getD_cons_zero] at s2
                  clear HAf HA HZ f3 f5 f2
                  cases ho
                  go_simp
                  exact HK.out _ HJ.out
                · intro o ho fs W HFi HAf HJ A HA HZ K' HK
                  have f6 : fs 6 = true := by cases ho; exact HAf.out ⟨6, .data⟩ (by simp) rfl
                  have s6 := HA.out 6 31 (by decide) f6 rfl
                  simp only [List.getD_cons_succ, List.getD_cons_zero] at s6
                  have f2 : fs 2 = true := by cases ho; exact HAf.out ⟨2, .guard⟩ (by simp) rfl
                  have s2 := HA.out 2 27 (by decide) f2 rfl
                  simp only [List.getD_cons_succ, List.getD_cons_zero] at s2
                  clear HAf HA HZ f6 f2
                  cases ho
                  go_simp
                  exact HK.out _ HJ.out
                · intro o ho fs W HFi HAf HJ A HA HZ K' HK
                  have z0 : A.tmps[0]? = some _ := HZ.out 0 (by decide)
                  have f2 : fs 2 = true := by cases ho; exact HAf.out ⟨2, .guard⟩ (by simp) rfl
                  have s2 := HA.out 2 27 (by decide) f2 rfl
                  simp only [List.getD_cons_succ, List.getD_cons_zero] at s2
                  clear HAf HA HZ f2
                  cases ho
                  go_simp
                  exact HK.out _ HJ.out
                · intro o ho fs W HFi HAf HJ A HA HZ K' HK
                  have z6 : A.tmps[6]? = some _ := HZ.out 6 (by decide)
                  have f2 : fs 2 = true := by cases ho; exact HAf.out ⟨2, .guard⟩ (by simp) rfl
                  have s2 := HA.out 2 27 (by decide) f2 rfl
                  simp only [List.getD_cons_succ, List.getD_cons_zero] at s2
                  clear HAf HA HZ f2
                  cases ho
                  go_simp
                  exact HK.out _ HJ.out
                · intro o ho fs W HFi HAf HJ A HA HZ K' HK
                  have f8 : fs 8 = true := by cases ho; exact HAf.out ⟨8, .data⟩ (by simp) rfl
                  have s8 := HA.out 8 33 (by decide) f8 rfl
                  simp only [List.getD_cons_succ, List.getD_cons_zero] at s8
                  have f9 : fs 9 = true := by cases ho; exact HAf.out ⟨9, .data⟩ (by simp) rfl
                  have s9 := HA.out 9 34 (by decide) f9 rfl
                  simp only [List.getD_cons_succ, List.getD_cons_zero] at s9
                  have f2 : fs 2 = true := by cases ho; exact HAf.out ⟨2, .guard⟩ (by simp) rfl
                  have s2 := HA.out 2 27 (by decide) f2 rfl
                  simp only [List.getD_cons_succ, List.getD_cons_zero] at s2
                  clear HAf HA HZ f8 f9 f2
                  cases ho
                  go_simp
                  exact HK.out _ HJ.out
                · intro o ho fs W HFi HAf HJ A HA HZ K' HK
                  have f10 : fs 10 = true := by cases ho; exact HAf.out ⟨10, .data⟩ (by simp) rfl
                  have s10 := HA.out 10 35 (by decide) f10 rfl
                  simp only [List.getD_cons_succ, List.getD_cons_zero] at s10
                  have f2 : fs 2 = true := by cases ho; exact HAf.out ⟨2, .guard⟩ (by simp) rfl
                  have s2 := HA.out 2 27 (by decide) f2 rfl
                  simp only [List.getD_cons_succ, List.getD_cons_zero] at s2
                  clear HAf HA HZ f10 f2
                  cases ho
                  go_simp
                  exact HK.out _ HJ.out
                · intro o ho fs W HFi HAf HJ A HA HZ K' HK
                  have f7 : fs 7 = true := by cases ho; exact HAf.out ⟨7, .data⟩ (by simp) rfl
                  have s7 := HA.out 7 32 (by decide) f7 rfl
                  simp only [List.getD_cons_succ, List.getD_cons_zero] at s7
                  have f11 : fs 11 = true := by cases ho; exact HAf.out ⟨11, .data⟩ (by simp) rfl
                  have s11 := HA.out 11 36 (by decide) f11 rfl
                  simp only [List.getD_cons_succ, List.getD_cons_zero] at s11
                  have f2 : fs 2 = true := by cases ho; exact HAf.out ⟨2, .chain⟩ (by simp) rfl
                  have s2 := HA.out 2 27 (by decide) f2 rfl
                  simp only [List.getD_cons_succ, List.getD_cons_zero] at s2
                  clear HAf HA HZ f7 f11 f2
                  cases ho
                  go_simp
                  exact HK.out _ HJ.out
                · intro o ho fs W HFi HAf HJ A HA HZ K' HK
                  have f2 : fs 2 = true := by cases ho; exact HAf.out ⟨2, .data⟩ (by simp) rfl
                  have s2 := HA.out 2 27 (by decide) f2 rfl
                  simp only [List.getD_cons_succ, List.getD_cons_zero] at s2
                  have f12 : fs 12 = true := by cases ho; exact HAf.out ⟨12, .data⟩ (by simp) rfl
                  have s12 := HA.out 12 37 (by decide) f12 rfl
                  simp only [List.getD_cons_succ, List.getD_cons_zero] at s12
                  clear HAf HA HZ f2 f12
                  cases ho
                  go_simp
                  exact HK.out _ HJ.out
              · intro W hJ
                simp only [canon, Act.put, List.getD_cons_succ, List.getD_cons_zero, List.drop_succ_cons, List.drop_zero, List.setIfInBounds_toArray, List.set_cons_zero, List.set_cons_succ]
                have HBW := Lib.hid hJ
                clear hJ
                simp only [wpList]
                refine (‹∀ (a' : Act) (w' : World), Met _ a' w' → _› _ _ ?_)
                go_meet
                exact ⟨by rw [HGf.out], HBW⟩
            · have x0 : 0 < i := by omega
              clear hi0
              obtain ⟨m, hm⟩ : ∃ m, i = m + 1 := ⟨i - 1, by omega⟩
              have hml : m < l.length := by omega
              obtain ⟨y, hy⟩ : ∃ y, l[m] = y := ⟨_, rfl⟩
              have hym : y ∈ l := hy ▸ List.getElem_mem _
              have HY := Lib.hid hy
              have hGy : G = apR y x := by
                have h := HGB.out
                have hX := HX.out
                subst hm
                rw [← h]
                unfold gapR
                simp only [List.getElem?_eq_getElem hml, List.getElem?_eq_getElem hlt]
                rw [hX, HY.out]
              have HGy := Lib.hid hGy
              have hiw : IntKind.i64.wrap ((i : Int) - 1) = (m : Int) := by rw [IntKind.wrap_i64]; omega
              have hmI : (m : Int) < (l.length : Int) := by omega
              clear hGy hy hm
              have HJn := Lib.hid fun W => apart_r y x W (HL.out y hym) (HL.out x hxm) (valid_n (HV.out y hym)) (valid_n (HV.out x hxm)) (by have := text_long y (HL.out y hym) (HV.out y hym); omega) (by have := text_long x (HL.out x hxm) (HV.out x hxm); omega)
              have HYc := Lib.hid fun W (hb : Below wr.heap.size wr W) => tok_cells (w := W) (fun j u hj => ((cellsB hb (Nat.le_refl _) b1 _ (by omega)).trans (cellsB HW.out hB0 b1 _ hb1)).trans (hc1 j u hj)) hml HY.out
              clear hc1
              refine' wp_region_fix (by kernel_rfl) 14 [some 25, some 26, some 27, some 28, some 29, some 30, some 31, some 32, some 33, some 34, some 35, some 36, some 37, some 38] [_, _, _, _, _, _, _, _, _, _, _, _, _, _] [] (fun (_ : List Bool) (W : World) => Below wr.heap.size wr W) (by kernel_rfl) (by decide) (by kernel_rfl) (by decide) (by rfl) (by decide) ((Below.refl _ _).drew) ?_ ?_
              rotate_left 14
              · refine all_cons 0 ?_ (all_cons 1 ?_ (all_cons 2 ?_ (all_cons 3 ?_ (all_cons 4 ?_ (all_cons 5 ?_ (all_cons 6 ?_ (all_cons 7 ?_ (all_cons 8 ?_ (all_cons 9 ?_ (all_cons 10 ?_ (all_cons 11 ?_ (all_cons 12 ?_ (all_cons 13 ?_ (all_done 14))))))))))))))
                · intro o ho fs W HFi HAf HJ A HA HZ K' HK
                  have z6 : A.tmps[6]? = some _ := HZ.out 6 (by decide)
                  clear HAf HA HZ
                  cases ho
                  go_simp
                  exact HK.out _ HJ.out
                · intro o ho fs W HFi HAf HJ A HA HZ K' HK
                  have f0 : fs 0 = true := by cases ho; exact HAf.out ⟨0, .data⟩ (by simp) rfl
                  have s0 := HA.out 0 25 (by decide) f0 rfl
                  simp only [List.getD_cons_zero] at s0
                  clear HAf HA HZ f0
                  cases ho
                  go_simp
                  exact HK.out _ HJ.out
                · intro o ho fs W HFi HAf HJ A HA HZ K' HK
                  have f1 : fs 1 = true := by cases ho; exact HAf.out ⟨1, .data⟩ (by simp) rfl
                  have s1 := HA.out 1 26 (by decide) f1 rfl
                  simp only [List.getD_cons_succ, List.getD_cons_zero] at s1
                  clear HAf HA HZ f1
                  cases ho
                  go_simp
                  exact HK.out _ HJ.out
                · intro o ho fs W HFi HAf HJ A HA HZ K' HK
                  have z0 : A.tmps[0]? = some _ := HZ.out 0 (by decide)
                  have f2 : fs 2 = true := by cases ho; exact HAf.out ⟨2, .guard⟩ (by simp) rfl
                  have s2 := HA.out 2 27 (by decide) f2 rfl
                  simp only [List.getD_cons_succ, List.getD_cons_zero] at s2
                  clear HAf HA HZ f2
                  cases ho
                  go_simp
                  exact HK.out _ HJ.out
                · intro o ho fs W HFi HAf HJ A HA HZ K' HK
                  have z6 : A.tmps[6]? = some _ := HZ.out 6 (by decide)
                  have f2 : fs 2 = true := by cases ho; exact HAf.out ⟨2, .guard⟩ (by simp) rfl
                  have s2 := HA.out 2 27 (by decide) f2 rfl
                  simp only [List.getD_cons_succ, List.getD_cons_zero] at s2
                  clear HAf HA HZ f2
                  cases ho
                  go_simp
                  exact HK.out _ HJ.out
                · intro o ho fs W HFi HAf HJ A HA HZ K' HK
                  have f4 : fs 4 = true := by cases ho; exact HAf.out ⟨4, .data⟩ (by simp) rfl
                  have s4 := HA.out 4 29 (by decide) f4 rfl
                  simp only [List.getD_cons_succ, List.getD_cons_zero] at s4
                  have f2 : fs 2 = true := by cases ho; exact HAf.out ⟨2, .guard⟩ (by simp) rfl
                  have s2 := HA.out 2 27 (by decide) f2 rfl
                  simp only [List.getD_cons_succ, List.getD_cons_zero] at s2
                  clear HAf HA HZ f4 f2
                  cases ho
                  go_simp
                  exact HK.out _ HJ.out
                · intro o ho fs W HFi HAf HJ A HA HZ K' HK
                  have f3 : fs 3 = true := by cases ho; exact HAf.out ⟨3, .data⟩ (by simp) rfl
                  have s3 := HA.out 3 28 (by decide) f3 rfl
                  simp only [List.getD_cons_succ, List.getD_cons_zero] at s3
                  have f5 : fs 5 = true := by cases ho; exact HAf.out ⟨5, .data⟩ (by simp) rfl
                  have s5 := HA.out 5 30 (by decide) f5 rfl
                  simp only [List.getD_cons_succ, List.getD_cons_zero] at s5
                  have f2 : fs 2 = true := by cases ho; exact HAf.out ⟨2, .guard⟩ (by simp) rfl
                  have s2 := HA.out 2 27 (by decide) f2 rfl
                  simp only [List.getD_cons_succ, List.getD_cons_zero] at s2
                  clear HAf HA HZ f3 f5 f2
                  cases ho
                  go_simp
                  exact HK.out _ HJ.out
                · intro o ho fs W HFi HAf HJ A HA HZ K' HK
                  have f6 : fs 6 = true := by cases ho; exact HAf.out ⟨6, .data⟩ (by simp) rfl
                  have s6 := HA.out 6 31 (by decide) f6 rfl
                  simp only [List.getD_cons_succ, List.getD_cons_zero] at s6
                  have f2 : fs 2 = true := by cases ho; exact HAf.out ⟨2, .guard⟩ (by simp) rfl
                  have s2 := HA.out 2 27 (by decide) f2 rfl
                  simp only [List.getD_cons_succ, List.getD_cons_zero] at s2
                  clear HAf HA HZ f6 f2
                  obtain ⟨c0, c1, c2, c3⟩ := HXc.out W HJ.out
                  obtain ⟨d0, d1, d2, d3⟩ := HYc.out W HJ.out
                  cases ho
                  go_simp
                  exact HK.out _ HJ.out
                · intro o ho fs W HFi HAf HJ A HA HZ K' HK
                  have z0 : A.tmps[0]? = some _ := HZ.out 0 (by decide)
                  have f2 : fs 2 = true := by cases ho; exact HAf.out ⟨2, .guard⟩ (by simp) rfl
                  have s2 := HA.out 2 27 (by decide) f2 rfl
                  simp only [List.getD_cons_succ, List.getD_cons_zero] at s2
                  clear HAf HA HZ f2
                  cases ho
                  go_simp
                  exact HK.out _ HJ.out
                · intro o ho fs W HFi HAf HJ A HA HZ K' HK
                  have z6 : A.tmps[6]? = some _ := HZ.out 6 (by decide)
                  have f2 : fs 2 = true := by cases ho; exact HAf.out ⟨2, .guard⟩ (by simp) rfl
                  have s2 := HA.out 2 27 (by decide) f2 rfl
                  simp only [List.getD_cons_succ, List.getD_cons_zero] at s2
                  clear HAf HA HZ f2
                  cases ho
                  go_simp
                  exact HK.out _ HJ.out
                · intro o ho fs W HFi HAf HJ A HA HZ K' HK
                  have f8 : fs 8 = true := by cases ho; exact HAf.out ⟨8, .data⟩ (by simp) rfl
                  have s8 := HA.out 8 33 (by decide) f8 rfl
                  simp only [List.getD_cons_succ, List.getD_cons_zero] at s8
                  have f9 : fs 9 = true := by cases ho; exact HAf.out ⟨9, .data⟩ (by simp) rfl
                  have s9 := HA.out 9 34 (by decide) f9 rfl
                  simp only [List.getD_cons_succ, List.getD_cons_zero] at s9
                  have f2 : fs 2 = true := by cases ho; exact HAf.out ⟨2, .guard⟩ (by simp) rfl
                  have s2 := HA.out 2 27 (by decide) f2 rfl
                  simp only [List.getD_cons_succ, List.getD_cons_zero] at s2
                  clear HAf HA HZ f8 f9 f2
                  cases ho
                  go_simp
                  exact HK.out _ HJ.out
                · intro o ho fs W HFi HAf HJ A HA HZ K' HK
                  have f10 : fs 10 = true := by cases ho; exact HAf.out ⟨10, .data⟩ (by simp) rfl
                  have s10 := HA.out 10 35 (by decide) f10 rfl
                  simp only [List.getD_cons_succ, List.getD_cons_zero] at s10
                  have f2 : fs 2 = true := by cases ho; exact HAf.out ⟨2, .guard⟩ (by simp) rfl
                  have s2 := HA.out 2 27 (by decide) f2 rfl
                  simp only [List.getD_cons_succ, List.getD_cons_zero] at s2
                  clear HAf HA HZ f10 f2
                  obtain ⟨c0, c1, c2, c3⟩ := HXc.out W HJ.out
                  obtain ⟨d0, d1, d2, d3⟩ := HYc.out W HJ.out
                  cases ho
                  go_simp
                  exact HK.out _ HJ.out
                · intro o ho fs W HFi HAf HJ A HA HZ K' HK
                  have f7 : fs 7 = true := by cases ho; exact HAf.out ⟨7, .data⟩ (by simp) rfl
                  have s7 := HA.out 7 32 (by decide) f7 rfl
                  simp only [List.getD_cons_succ, List.getD_cons_zero] at s7
                  have f11 : fs 11 = true := by cases ho; exact HAf.out ⟨11, .data⟩ (by simp) rfl
                  have s11 := HA.out 11 36 (by decide) f11 rfl
                  simp only [List.getD_cons_succ, List.getD_cons_zero] at s11
                  have f2 : fs 2 = true := by cases ho; exact HAf.out ⟨2, .chain⟩ (by simp) rfl
                  have s2 := HA.out 2 27 (by decide) f2 rfl
                  simp only [List.getD_cons_succ, List.getD_cons_zero] at s2
                  clear HAf HA HZ
                  cases ho
                  go_simp
                  refine (HJn.out W).mono ?_
                  rintro e w3 ⟨rfl, hb3⟩
                  exact HK.out _ (bstep HJ.out hb3)
                · intro o ho fs W HFi HAf HJ A HA HZ K' HK
                  have f2 : fs 2 = true := by cases ho; exact HAf.out ⟨2, .data⟩ (by simp) rfl
                  have s2 := HA.out 2 27 (by decide) f2 rfl
                  simp only [List.getD_cons_succ, List.getD_cons_zero] at s2
                  have f12 : fs 12 = true := by cases ho; exact HAf.out ⟨12, .data⟩ (by simp) rfl
                  have s12 := HA.out 12 37 (by decide) f12 rfl
                  simp only [List.getD_cons_succ, List.getD_cons_zero] at s12
                  clear HAf HA HZ f2 f12
                  cases ho
                  go_simp
                  exact HK.out _ HJ.out
              · intro W hJ
                simp only [canon, Act.put, List.getD_cons_succ, List.getD_cons_zero, List.drop_succ_cons, List.drop_zero, List.setIfInBounds_toArray, List.set_cons_zero, List.set_cons_succ]
                have HBW := Lib.hid hJ
                clear hJ
                simp only [wpList]
                refine (‹∀ (a' : Act) (w' : World), Met _ a' w' → _› _ _ ?_)
                go_meet
                exact ⟨by rw [HGy.out], HBW⟩
          case rest =>
            obtain ⟨rfl, HWc⟩ := hcut
            have HXL := Lib.hid (text_long x (HL.out x hxm) (HV.out x hxm))
            have HTx := Lib.hid fun W => Text_r x W (HL.out x hxm) (valid_n (HV.out x hxm))
            have HW1 := Lib.hid (bstep HW.out HWc.out)
            obtain ⟨c0, c1, c2, c3⟩ := HXc.out wc HWc.out
            clear HGB HX hc1 hne
            have hX5 := HXL.out
            have HSt := Lib.hid (show ∀ P : List UInt8, P = joinTk (l.take i) ++ ((if G then [32] else []) ++ textTk x) → (65536 < P.length ∧ joinR l = ([], 3)) ∨ (P.length ≤ 65536 ∧ P = joinTk (l.take (i + 1))) from by
              intro P hP
              have hmo := join_mono l l.length (Nat.le_refl _) (i + 1) hlt
              rw [List.take_length] at hmo
              have h := HST.out
              rw [← hP] at h
              rcases Nat.lt_or_ge 65536 P.length with h1 | h1
              · refine .inl ⟨h1, joinR_long HVA.out ?_⟩
                rcases h with h | h
                · rw [h] at h1; omega
                · omega
              · refine .inr ⟨h1, ?_⟩
                rcases h with h | h
                · exact h
                · omega)
            generalize hout2 : joinTk (l.take i) = out at *
            have so : (ba out).size = out.length := ba_size _
            cases G with
            | true =>
              obtain ⟨P, hP⟩ : ∃ P, out ++ ([32] ++ textTk x) = P := ⟨_, rfl⟩
              have HP := Lib.hid (HSt.out P (by rw [← hP]; simp))
              have hPl : P.length = out.length + 1 + (textTk x).length := by rw [← hP]; simp only [List.length_append, List.length_singleton]; omega
              have hPb : ba P = ba out ++ ⟨#[32]⟩ ++ ba (textTk x) := by rw [← hP]; rw [← List.append_assoc, ← ba_app2, ← ba_app2]; rfl
              clear hP HSt
              generalize hX : textTk x = X at *
              have sX : (ba X).size = X.length := ba_size _
              have y1 : ¬ 9223372036854775807 < out.length + 1 + X.length := by omega
              have y2 : ¬ 9223372036854775807 < out.length + 1 := by omega
              go_wp2_with fail
              refine (HTx.out wc).mono ?_
              rintro e w5 ⟨rfl, hb5⟩
              have HW5 := Lib.hid (bstep HW1.out hb5)
              clear hb5 c0 c1 c2 c3
              rcases HP.out with ⟨hlong, hR⟩ | ⟨hshort, hPe⟩
              · have HR := Lib.hid hR
                have HPb := Lib.hid hPb
                have xl : (65536 : Int) < (out.length : Int) + 1 + (X.length : Int) := by omega
                clear hR hPb hPl
                go_wp2_with fail
                go_ret2
                exact ⟨by rw [HR.out]; rfl, HW5.out⟩
              · have HPe := Lib.hid hPe
                have HPb := Lib.hid hPb
                have xl : ¬ (65536 : Int) < (out.length : Int) + 1 + (X.length : Int) := by omega
                clear hPe hPb hPl
                go_wp2_with fail
                go_roundw
                case rel => exact ⟨i + 1, by go_num, by rw [← HPe.out, HPb.out], by omega, by rw [← HPe.out]; exact hshort, HW5⟩
                case measure => simp only [intOf]; omega
            | false =>
              obtain ⟨P, hP⟩ : ∃ P, out ++ textTk x = P := ⟨_, rfl⟩
              have HP := Lib.hid (HSt.out P (by rw [← hP]; simp))
              have hPl : P.length = out.length + (textTk x).length := by rw [← hP]; exact List.length_append
              have hPb : ba P = ba out ++ ba (textTk x) := by rw [← hP]; rw [ba_app2]
              clear hP HSt
              generalize hX : textTk x = X at *
              have sX : (ba X).size = X.length := ba_size _
              have y1 : ¬ 9223372036854775807 < out.length + X.length := by omega
              have y2 : ¬ 9223372036854775807 < out.length + 1 := by omega
              go_wp2_with fail
              refine (HTx.out wc).mono ?_
              rintro e w5 ⟨rfl, hb5⟩
              have HW5 := Lib.hid (bstep HW1.out hb5)
              clear hb5 c0 c1 c2 c3
              rcases HP.out with ⟨hlong, hR⟩ | ⟨hshort, hPe⟩
              · have HR := Lib.hid hR
                have HPb := Lib.hid hPb
                have xl : (65536 : Int) < (out.length : Int) + (X.length : Int) := by omega
                clear hR hPb hPl
                go_wp2_with fail
                go_ret2
                exact ⟨by rw [HR.out]; rfl, HW5.out⟩
              · have HPe := Lib.hid hPe
                have HPb := Lib.hid hPb
                have xl : ¬ (65536 : Int) < (out.length : Int) + (X.length : Int) := by omega
                clear hPe hPb hPl
                go_wp2_with fail
                go_roundw
                case rel => exact ⟨i + 1, by go_num, by rw [← HPe.out, HPb.out], by omega, by rw [← HPe.out]; exact hshort, HW5⟩
                case measure => simp only [intOf]; omega
        · have x1 : ¬ (i : Int) < (l.length : Int) := by omega
          obtain rfl : i = l.length := by omega
          rw [List.take_length] at *
          have HR := Lib.hid (joinR_ok HVA.out (by omega))
          go_wp2_with fail
          go_ret2
          exact ⟨by rw [HR.out]; rfl, HW.out⟩
end Go.Proofs.YtmcnhggpmlhgeaaGreatDoor
