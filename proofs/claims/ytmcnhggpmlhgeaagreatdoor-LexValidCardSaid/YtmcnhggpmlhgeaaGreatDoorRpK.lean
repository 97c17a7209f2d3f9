/-
  Walks: Join of lex: the loop.
-/
import Derived.Test.YtmcnhggpmlhgeaaGreatDoorRpJ
import Derived.Test.YtmcnhggpmlhgeaaGreatDoorLb
import Derived.Deep.DeepCutAuto
namespace Go.Proofs.YtmcnhggpmlhgeaaGreatDoor
open Go.RowKit
/-- the blank that two tokens want -/
def gapB (l : List Tok) (i : Nat) : Bool := match i with
  | 0 => false
  | i + 1 => match l[i]?, l[i + 1]? with
    | some a, some b => joinB a b
    | _, _ => false
theorem joinTk_snoc : ∀ (l : List Tok) (a b : Tok), joinTk (l ++ [a, b]) = joinTk (l ++ [a]) ++ (if joinB a b then 32 :: textTk b else textTk b)
  | [], a, b => by
    rw [List.nil_append, List.nil_append, joinTk_cons, joinTk_cons, sepJ_cons, joinTk_cons, show sepJ b [] = [] from rfl, show sepJ a [] = [] from rfl, List.append_nil, List.append_nil]
  | [c], a, b => by
    have ih := joinTk_snoc [] a b
    rw [List.nil_append, List.nil_append] at ih
    rw [List.singleton_append, List.singleton_append, joinTk_cons, joinTk_cons c [a], sepJ_cons, sepJ_cons, ih]
    cases joinB c a <;> simp
  | c :: d :: l, a, b => by
    have ih := joinTk_snoc (d :: l) a b
    rw [List.cons_append, List.cons_append] at ih
    rw [List.cons_append, List.cons_append, List.cons_append, List.cons_append, joinTk_cons, joinTk_cons c, sepJ_cons, sepJ_cons, ih]
    cases joinB c d <;> simp
theorem join_step (l : List Tok) (i : Nat) (h : i < l.length) : joinTk (l.take (i + 1)) = joinTk (l.take i) ++ ((if gapB l i then [32] else []) ++ textTk l[i]) := by
  cases i with
  | zero =>
    rw [List.take_zero, List.take_succ_eq_append_getElem h, List.take_zero, List.nil_append, joinTk_cons, show sepJ l[0] [] = [] from rfl, List.append_nil]
    rfl
  | succ i =>
    rw [List.take_succ_eq_append_getElem h, List.take_succ_eq_append_getElem (show i < l.length by omega), List.append_assoc, List.singleton_append, joinTk_snoc]
    have hg : gapB l (i + 1) = joinB l[i] l[i + 1] := by
      unfold gapB
      simp only [List.getElem?_eq_getElem (show i < l.length by omega), List.getElem?_eq_getElem h]
    rw [hg]
    cases joinB l[i] l[i + 1] <;> simp
theorem join_mono (l : List Tok) : ∀ (i : Nat), i ≤ l.length → ∀ j, j ≤ i → (joinTk (l.take j)).length ≤ (joinTk (l.take i)).length
  | 0, _, j, hj => by rw [Nat.le_zero.1 hj]; exact Nat.le_refl _
  | i + 1, h, j, hj => by
    rcases Nat.lt_or_ge j (i + 1) with h1 | h1
    · refine Nat.le_trans (join_mono l i (by omega) j (by omega)) ?_
      rw [join_step l i (by omega), List.length_append]; omega
    · rw [show j = i + 1 by omega]; exact Nat.le_refl _
/-- what Join answers -/
def joinR (l : List Tok) : List UInt8 × Int := if l.all validTk then (if 65536 < (joinTk l).length then ([], 3) else (joinTk l, 0)) else ([], 2)
def joinV (r : List UInt8 × Int) : Ending := .returned (.tuple #[.string (ba r.1), .int .i64 r.2])
theorem joinR_bad {l : List Tok} (h : l.all validTk = false) : joinR l = ([], 2) := by unfold joinR; rw [h]; rfl
theorem joinR_long {l : List Tok} (h : l.all validTk = true) (h2 : 65536 < (joinTk l).length) : joinR l = ([], 3) := by unfold joinR; rw [h, if_pos rfl, if_pos h2]
theorem joinR_ok {l : List Tok} (h : l.all validTk = true) (h2 : ¬ 65536 < (joinTk l).length) : joinR l = (joinTk l, 0) := by unfold joinR; rw [h, if_pos rfl, if_neg h2]
set_option maxRecDepth 100000 in
set_option maxHeartbeats 8000000 in
theorem Join_bad (B : Nat) (l : List Tok) (v : Value) (w : World) (hr : RdK w B v l) (hB : B ≤ w.heap.size) (hl : ∀ t ∈ l, t.tx.length ≤ 1000000) (hT : Tb w) (hv : l.all validTk = false) :
    Calls Tryz.prog 15 #[v] w fun e w' => e = joinV (joinR l) ∧ Below w.heap.size w w' := by
  rw [joinR_bad hv]
  have HC := Lib.hid (show Calls Tryz.prog 28 #[v, .func (.func 29) #[] #[]] w fun e w' => e = .returned (.bool true) ∧ Below w.heap.size w w' from by have h := Contains_bad B l v w hr hB hl hT; rw [hv] at h; exact h)
  obtain ⟨ao, cap, rfl, -⟩ := hr
  clear hl hT hv
  go_enter Tryz.func15, Tryz.ntmps15
  go_wp2_with fail
  refine HC.out.mono ?_
  rintro e w1 ⟨rfl, hb⟩
  have HB := Lib.hid hb
  clear hb
  go_wp2_with fail
  go_ret2
  exact ⟨rfl, HB.out⟩
set_option maxRecDepth 100000 in
set_option maxHeartbeats 16000000 in
theorem Join_ok (B0 : Nat) (l : List Tok) (v : Value) (w : World) (hr : RdK w B0 v l) (hB0 : B0 ≤ w.heap.size) (hl : ∀ t ∈ l, t.tx.length ≤ 1000000) (hT : Tb w) (hv : l.all validTk = true) :
    Calls Tryz.prog 15 #[v] w fun e w' => e = joinV (joinR l) ∧ Below w.heap.size w w' := by
  have HCb := Lib.hid (show Calls Tryz.prog 28 #[v, .func (.func 29) #[] #[]] w fun e w' => e = .returned (.bool false) ∧ Below w.heap.size w w' from by have h := Contains_bad B0 l v w hr hB0 hl hT; rw [hv] at h; exact h)
  obtain ⟨ao, cap, rfl, hcap, hlen, hc⟩ := hr
  have HC := Lib.hid hc
  have HL := Lib.hid hl
  have HT := Lib.hid hT
  have HV := Lib.hid (List.all_eq_true.1 hv)
  have HVA := Lib.hid hv
  clear hc hl hT hv
  go_enter Tryz.func15, Tryz.ntmps15
  go_wp2_with fail
  refine HCb.out.mono ?_
  rintro e w0 ⟨rfl, hb⟩
  have HW0 := Lib.hid hb
  have hz0 := hb.size
  clear hb HCb
  go_upto_region 4 with (fail)
  have HWr0 := Lib.hid (Wr.fresh w0)
  have HB0 := Lib.hid (below_alloc w0 (.cells #[.pointer none, .slice none 0 0] 52 (0, 0)))
  have hsz0 : (w0.alloc (.cells #[.pointer none, .slice none 0 0] 52 (0, 0))).heap.size = w0.heap.size + 1 := World.size_alloc _ _
  generalize w0.alloc (.cells #[.pointer none, .slice none 0 0] 52 (0, 0)) = w1 at HWr0 HB0 hsz0 ⊢
  go_wp2_with fail
  go_loopw [11] (fun v wr => ∃ i : Nat, v = .int .i64 i ∧ i ≤ l.length ∧ (joinTk (l.take i)).length ≤ 65536 ∧ Hid (Wr w0.heap.size w0.heap.size (joinTk (l.take i)) wr) ∧ Hid (Below w0.heap.size w0 wr) ∧ w0.heap.size < wr.heap.size) (fun v _ => l.length - (intOf v).toNat)
  case atStart => exact ⟨0, rfl, Nat.zero_le _, by rw [List.take_zero]; decide, HWr0, HB0, by omega⟩
  case round =>
    obtain ⟨i, rfl, hi, hout, HWr, HW, hzr⟩ := hrel
    clear HWr0 HB0 hsz0
    by_cases hlt : i < l.length
    · have x1 : (i : Int) < (l.length : Int) := by omega
      have hne : l ≠ [] := by intro h; subst h; simp at hlt
      obtain ⟨b1, o1, rfl, hb1, hc1⟩ := HC.out hne
      obtain ⟨x, hx⟩ : ∃ x, l[i] = x := ⟨_, rfl⟩
      have hxm : x ∈ l := hx ▸ List.getElem_mem hlt
      have HBw := Lib.hid (show Below w.heap.size w wr from HW0.out.trans (HW.out.mono hz0))
      have hst := join_step l i hlt
      rw [hx] at hst
      generalize hG : gapB l i = G at hst
      obtain ⟨c0, c1, c2, c3⟩ := tok_cells (w := wr) (fun j u hj => (cellsB HBw.out hB0 b1 _ hb1).trans (hc1 j u hj)) hlt hx
      have HST := Lib.hid hst
      have HGB := Lib.hid hG
      have HX := Lib.hid hx
      clear hst hG hx
      go_upto_region 7 with (fail)
      clear c0 c1 c2 c3
      have HX2 := Lib.hid (heap_alloc_new wr (.cells #[.int .i64 x.k, .string (ba x.tx), .int .u64 (x.n : Int), .int .i64 x.pos] 36 (0, 0)))
      have HWr2 := Lib.hid (HWr.out.keep (w' := wr.alloc (.cells #[.int .i64 x.k, .string (ba x.tx), .int .u64 (x.n : Int), .int .i64 x.pos] 36 (0, 0))) (below_alloc wr _).block)
      have HW2 := Lib.hid (balloc HW.out (.cells #[.int .i64 x.k, .string (ba x.tx), .int .u64 (x.n : Int), .int .i64 x.pos] 36 (0, 0)))
      have hz2 : (wr.alloc (.cells #[.int .i64 x.k, .string (ba x.tx), .int .u64 (x.n : Int), .int .i64 x.pos] 36 (0, 0))).heap.size = wr.heap.size + 1 := World.size_alloc _ _
      have HZ2 := Lib.hid hz2
      clear hz2
      generalize wr.alloc (.cells #[.int .i64 x.k, .string (ba x.tx), .int .u64 (x.n : Int), .int .i64 x.pos] 36 (0, 0)) = w2 at HX2 HWr2 HW2 HZ2 ⊢
      go_cut [26] (fun s26 wx => s26 = .bool G ∧ Hid (Wr w0.heap.size w0.heap.size (joinTk (l.take i)) wx) ∧ Hid (wx.heap[wr.heap.size]? = some (.cells #[.int .i64 x.k, .string (ba x.tx), .int .u64 (x.n : Int), .int .i64 x.pos] 36 (0, 0))) ∧ Hid (Below w0.heap.size w0 wx) ∧ w0.heap.size < wx.heap.size)
      case first =>
        have HBw2 := Lib.hid (show Below w.heap.size w w2 from HW0.out.trans (HW2.out.mono hz0))
        have hzw2 := HZ2.out
        by_cases hi0 : i = 0
        · have HGf := Lib.hid (show G = false from by rw [← HGB.out, hi0]; rfl)
          subst hi0
          refine' wp_region_fix (by kernel_rfl) 11 [some 16, some 17, some 18, some 19, some 20, some 21, some 22, some 23, some 24, some 25, some 26] [_, _, _, _, _, _, _, _, _, _, _] [] (fun (_ : List Bool) (W : World) => Below w2.heap.size w2 W) (by kernel_rfl) (by decide) (by kernel_rfl) (by decide) (by rfl) (by decide) ((Below.refl _ _).drew) ?_ ?_
          rotate_left 11
          · refine all_cons 0 ?_ (all_cons 1 ?_ (all_cons 2 ?_ (all_cons 3 ?_ (all_cons 4 ?_ (all_cons 5 ?_ (all_cons 6 ?_ (all_cons 7 ?_ (all_cons 8 ?_ (all_cons 9 ?_ (all_cons 10 ?_ (all_done 11)))))))))))
            · intro o ho fs W HFi HAf HJ A HA HZ K' HK
              have z5 : A.tmps[5]? = some _ := HZ.out 5 (by decide)
              clear HAf HA HZ
              cases ho
              go_simp
              exact HK.out _ HJ.out
            · intro o ho fs W HFi HAf HJ A HA HZ K' HK
              have f0 : fs 0 = true := by cases ho; exact HAf.out ⟨0, .data⟩ (by simp) rfl
              have s0 := HA.out 0 16 (by decide) f0 rfl
              simp only [List.getD_cons_zero] at s0
              clear HAf HA HZ f0
              cases ho
              go_simp
              exact HK.out _ HJ.out
            · intro o ho fs W HFi HAf HJ A HA HZ K' HK
              have f1 : fs 1 = true := by cases ho; exact HAf.out ⟨1, .data⟩ (by simp) rfl
              have s1 := HA.out 1 17 (by decide) f1 rfl
              simp only [List.getD_cons_succ, List.getD_cons_zero] at s1
              clear HAf HA HZ f1
              cases ho
              go_simp
              exact HK.out _ HJ.out
            · intro o ho fs W HFi HAf HJ A HA HZ K' HK
              have z0 : A.tmps[0]? = some _ := HZ.out 0 (by decide)
              have f2 : fs 2 = true := by cases ho; exact HAf.out ⟨2, .guard⟩ (by simp) rfl
              have s2 := HA.out 2 18 (by decide) f2 rfl
              simp only [List.getD_cons_succ, List.getD_cons_zero] at s2
              clear HAf HA HZ f2
              cases ho
              go_simp
              exact HK.out _ HJ.out
            · intro o ho fs W HFi HAf HJ A HA HZ K' HK
              have z5 : A.tmps[5]? = some _ := HZ.out 5 (by decide)
              have f2 : fs 2 = true := by cases ho; exact HAf.out ⟨2, .guard⟩ (by simp) rfl
              have s2 := HA.out 2 18 (by decide) f2 rfl
              simp only [List.getD_cons_succ, List.getD_cons_zero] at s2
              clear HAf HA HZ f2
              cases ho
              go_simp
              exact HK.out _ HJ.out
            · intro o ho fs W HFi HAf HJ A HA HZ K' HK
              have f4 : fs 4 = true := by cases ho; exact HAf.out ⟨4, .data⟩ (by simp) rfl
              have s4 := HA.out 4 20 (by decide) f4 rfl
              simp only [List.getD_cons_succ, List.getD_cons_zero] at s4
              have f2 : fs 2 = true := by cases ho; exact HAf.out ⟨2, .guard⟩ (by simp) rfl
              have s2 := HA.out 2 18 (by decide) f2 rfl
              simp only [List.getD_cons_succ, List.getD_cons_zero] at s2
              clear HAf HA HZ f4 f2
              cases ho
              go_simp
              exact HK.out _ HJ.out
            · intro o ho fs W HFi HAf HJ A HA HZ K' HK
              have f3 : fs 3 = true := by cases ho; exact HAf.out ⟨3, .data⟩ (by simp) rfl
              have s3 := HA.out 3 19 (by decide) f3 rfl
              simp only [List.getD_cons_succ, List.getD_cons_zero] at s3
              have f5 : fs 5 = true := by cases ho; exact HAf.out ⟨5, .data⟩ (by simp) rfl
              have s5 := HA.out 5 21 (by decide) f5 rfl
              simp only [List.getD_cons_succ, List.getD_cons_zero] at s5
              have f2 : fs 2 = true := by cases ho; exact HAf.out ⟨2, .guard⟩ (by simp) rfl
              have s2 := HA.out 2 18 (by decide) f2 rfl
              simp only [List.getD_cons_succ, List.getD_cons_zero] at s2
              clear HAf HA HZ f3 f5 f2
              cases ho
              go_simp
              exact HK.out _ HJ.out
            · intro o ho fs W HFi HAf HJ A HA HZ K' HK
              have f6 : fs 6 = true := by cases ho; exact HAf.out ⟨6, .data⟩ (by simp) rfl
              have s6 := HA.out 6 22 (by decide) f6 rfl
              simp only [List.getD_cons_succ, List.getD_cons_zero] at s6
              have f2 : fs 2 = true := by cases ho; exact HAf.out ⟨2, .guard⟩ (by simp) rfl
              have s2 := HA.out 2 18 (by decide) f2 rfl
              simp only [List.getD_cons_succ, List.getD_cons_zero] at s2
              clear HAf HA HZ f6 f2
              cases ho
              go_simp
              exact HK.out _ HJ.out
            · intro o ho fs W HFi HAf HJ A HA HZ K' HK
              have z6 : A.tmps[6]? = some _ := HZ.out 6 (by decide)
              have f2 : fs 2 = true := by cases ho; exact HAf.out ⟨2, .guard⟩ (by simp) rfl
              have s2 := HA.out 2 18 (by decide) f2 rfl
              simp only [List.getD_cons_succ, List.getD_cons_zero] at s2
              clear HAf HA HZ f2
              cases ho
              go_simp
              exact HK.out _ HJ.out
            · intro o ho fs W HFi HAf HJ A HA HZ K' HK
              have f7 : fs 7 = true := by cases ho; exact HAf.out ⟨7, .data⟩ (by simp) rfl
              have s7 := HA.out 7 23 (by decide) f7 rfl
              simp only [List.getD_cons_succ, List.getD_cons_zero] at s7
              have f8 : fs 8 = true := by cases ho; exact HAf.out ⟨8, .data⟩ (by simp) rfl
              have s8 := HA.out 8 24 (by decide) f8 rfl
              simp only [List.getD_cons_succ, List.getD_cons_zero] at s8
              have f2 : fs 2 = true := by cases ho; exact HAf.out ⟨2, .chain⟩ (by simp) rfl
              have s2 := HA.out 2 18 (by decide) f2 rfl
              simp only [List.getD_cons_succ, List.getD_cons_zero] at s2
              clear HAf HA HZ f7 f8 f2
              cases ho
              go_simp
              exact HK.out _ HJ.out
            · intro o ho fs W HFi HAf HJ A HA HZ K' HK
              have f2 : fs 2 = true := by cases ho; exact HAf.out ⟨2, .data⟩ (by simp) rfl
              have s2 := HA.out 2 18 (by decide) f2 rfl
              simp only [List.getD_cons_succ, List.getD_cons_zero] at s2
              have f9 : fs 9 = true := by cases ho; exact HAf.out ⟨9, .data⟩ (by simp) rfl
              have s9 := HA.out 9 25 (by decide) f9 rfl
              simp only [List.getD_cons_succ, List.getD_cons_zero] at s9
              clear HAf HA HZ f2 f9
              cases ho
              go_simp
              exact HK.out _ HJ.out
          · intro W hJ
            simp only [canon, Act.put, List.getD_cons_succ, List.getD_cons_zero, List.drop_succ_cons, List.drop_zero, List.setIfInBounds_toArray, List.set_cons_zero, List.set_cons_succ]
            have HBW := Lib.hid hJ
            clear hJ
            have hzW := HBW.out.size
            simp only [wpList]
            refine (‹∀ (a' : Act) (w' : World), Met _ a' w' → _› _ _ ?_)
            go_meet
            exact ⟨by rw [HGf.out], Lib.hid (HWr2.out.keep HBW.out.block), Lib.hid ((HBW.out.block wr.heap.size (lt_of_block HX2.out)).trans HX2.out), Lib.hid (bstep HW2.out HBW.out), by omega⟩
        · have x0 : 0 < i := by omega
          clear hi0
          obtain ⟨m, hm⟩ : ∃ m, i = m + 1 := ⟨i - 1, by omega⟩
          have hml : m < l.length := by omega
          obtain ⟨y, hy⟩ : ∃ y, l[m] = y := ⟨_, rfl⟩
          have hym : y ∈ l := hy ▸ List.getElem_mem _
          have HY := Lib.hid hy
          have hGy : G = joinB y x := by
            have h := HGB.out
            have hX := HX.out
            subst hm
            rw [← h]
            unfold gapB
            simp only [List.getElem?_eq_getElem hml, List.getElem?_eq_getElem hlt]
            rw [hX, HY.out]
          have HGy := Lib.hid hGy
          have hiw : IntKind.i64.wrap ((i : Int) - 1) = (m : Int) := by rw [IntKind.wrap_i64]; omega
          have hmI : (m : Int) < (l.length : Int) := by omega
          clear hGy hy hm
          have HJn := Lib.hid fun W hT => joins_any y x W (HL.out y hym) (HL.out x hxm) (HV.out y hym) (HV.out x hxm) hT
          have HTW := Lib.hid fun W (hb : Below w2.heap.size w2 W) => HT.out.below (HBw2.out.trans (hb.mono HBw2.out.size))
          have HCY := Lib.hid fun W (hb : Below w2.heap.size w2 W) => tok_cells (w := W) (fun j u hj => ((cellsB hb (Nat.le_refl _) b1 _ (by have := HBw2.out.size; omega)).trans (cellsB HBw2.out hB0 b1 _ hb1)).trans (hc1 j u hj)) hml HY.out
          clear hc1
          refine' wp_region_fix (by kernel_rfl) 11 [some 16, some 17, some 18, some 19, some 20, some 21, some 22, some 23, some 24, some 25, some 26] [_, _, _, _, _, _, _, _, _, _, _] [] (fun (_ : List Bool) (W : World) => Below w2.heap.size w2 W) (by kernel_rfl) (by decide) (by kernel_rfl) (by decide) (by rfl) (by decide) ((Below.refl _ _).drew) ?_ ?_
          rotate_left 11
          · refine all_cons 0 ?_ (all_cons 1 ?_ (all_cons 2 ?_ (all_cons 3 ?_ (all_cons 4 ?_ (all_cons 5 ?_ (all_cons 6 ?_ (all_cons 7 ?_ (all_cons 8 ?_ (all_cons 9 ?_ (all_cons 10 ?_ (all_done 11)))))))))))
            · intro o ho fs W HFi HAf HJ A HA HZ K' HK
              have z5 : A.tmps[5]? = some _ := HZ.out 5 (by decide)
              clear HAf HA HZ
              cases ho
              go_simp
              exact HK.out _ HJ.out
            · intro o ho fs W HFi HAf HJ A HA HZ K' HK
              have f0 : fs 0 = true := by cases ho; exact HAf.out ⟨0, .data⟩ (by simp) rfl
              have s0 := HA.out 0 16 (by decide) f0 rfl
              simp only [List.getD_cons_zero] at s0
              clear HAf HA HZ f0
              cases ho
              go_simp
              exact HK.out _ HJ.out
            · intro o ho fs W HFi HAf HJ A HA HZ K' HK
              have f1 : fs 1 = true := by cases ho; exact HAf.out ⟨1, .data⟩ (by simp) rfl
              have s1 := HA.out 1 17 (by decide) f1 rfl
              simp only [List.getD_cons_succ, List.getD_cons_zero] at s1
              clear HAf HA HZ f1
              cases ho
              go_simp
              exact HK.out _ HJ.out
            · intro o ho fs W HFi HAf HJ A HA HZ K' HK
              have z0 : A.tmps[0]? = some _ := HZ.out 0 (by decide)
              have f2 : fs 2 = true := by cases ho; exact HAf.out ⟨2, .guard⟩ (by simp) rfl
              have s2 := HA.out 2 18 (by decide) f2 rfl
              simp only [List.getD_cons_succ, List.getD_cons_zero] at s2
              clear HAf HA HZ f2
              cases ho
              go_simp
              exact HK.out _ HJ.out
            · intro o ho fs W HFi HAf HJ A HA HZ K' HK
              have z5 : A.tmps[5]? = some _ := HZ.out 5 (by decide)
              have f2 : fs 2 = true := by cases ho; exact HAf.out ⟨2, .guard⟩ (by simp) rfl
              have s2 := HA.out 2 18 (by decide) f2 rfl
              simp only [List.getD_cons_succ, List.getD_cons_zero] at s2
              clear HAf HA HZ f2
              cases ho
              go_simp
              exact HK.out _ HJ.out
            · intro o ho fs W HFi HAf HJ A HA HZ K' HK
              have f4 : fs 4 = true := by cases ho; exact HAf.out ⟨4, .data⟩ (by simp) rfl
              have s4 := HA.out 4 20 (by decide) f4 rfl
              simp only [List.getD_cons_succ, List.getD_cons_zero] at s4
              have f2 : fs 2 = true := by cases ho; exact HAf.out ⟨2, .guard⟩ (by simp) rfl
              have s2 := HA.out 2 18 (by decide) f2 rfl
              simp only [List.getD_cons_succ, List.getD_cons_zero] at s2
              clear HAf HA HZ f4 f2
              cases ho
              go_simp
              exact HK.out _ HJ.out
            · intro o ho fs W HFi HAf HJ A HA HZ K' HK
              have f3 : fs 3 = true := by cases ho; exact HAf.out ⟨3, .data⟩ (by simp) rfl
              have s3 := HA.out 3 19 (by decide) f3 rfl
              simp only [List.getD_cons_succ, List.getD_cons_zero] at s3
              have f5 : fs 5 = true := by cases ho; exact HAf.out ⟨5, .data⟩ (by simp) rfl
              have s5 := HA.out 5 21 (by decide) f5 rfl
              simp only [List.getD_cons_succ, List.getD_cons_zero] at s5
              have f2 : fs 2 = true := by cases ho; exact HAf.out ⟨2, .guard⟩ (by simp) rfl
              have s2 := HA.out 2 18 (by decide) f2 rfl
              simp only [List.getD_cons_succ, List.getD_cons_zero] at s2
              clear HAf HA HZ f3 f5 f2
              cases ho
              go_simp
              exact HK.out _ HJ.out
            · intro o ho fs W HFi HAf HJ A HA HZ K' HK
              have f6 : fs 6 = true := by cases ho; exact HAf.out ⟨6, .data⟩ (by simp) rfl
              have s6 := HA.out 6 22 (by decide) f6 rfl
              simp only [List.getD_cons_succ, List.getD_cons_zero] at s6
              have f2 : fs 2 = true := by cases ho; exact HAf.out ⟨2, .guard⟩ (by simp) rfl
              have s2 := HA.out 2 18 (by decide) f2 rfl
              simp only [List.getD_cons_succ, List.getD_cons_zero] at s2
              clear HAf HA HZ f6 f2
              obtain ⟨c0, c1, c2, c3, -⟩ := four_cells ((HJ.out.block wr.heap.size (lt_of_block HX2.out)).trans HX2.out)
              obtain ⟨d0, d1, d2, d3⟩ := HCY.out W HJ.out
              cases ho
              go_simp
              exact HK.out _ HJ.out
            · intro o ho fs W HFi HAf HJ A HA HZ K' HK
              have z6 : A.tmps[6]? = some _ := HZ.out 6 (by decide)
              have f2 : fs 2 = true := by cases ho; exact HAf.out ⟨2, .guard⟩ (by simp) rfl
              have s2 := HA.out 2 18 (by decide) f2 rfl
              simp only [List.getD_cons_succ, List.getD_cons_zero] at s2
              clear HAf HA HZ f2
              obtain ⟨c0, c1, c2, c3, -⟩ := four_cells ((HJ.out.block wr.heap.size (lt_of_block HX2.out)).trans HX2.out)
              obtain ⟨d0, d1, d2, d3⟩ := HCY.out W HJ.out
              cases ho
              go_simp
              exact HK.out _ HJ.out
            · intro o ho fs W HFi HAf HJ A HA HZ K' HK
              have f7 : fs 7 = true := by cases ho; exact HAf.out ⟨7, .data⟩ (by simp) rfl
              have s7 := HA.out 7 23 (by decide) f7 rfl
              simp only [List.getD_cons_succ, List.getD_cons_zero] at s7
              have f8 : fs 8 = true := by cases ho; exact HAf.out ⟨8, .data⟩ (by simp) rfl
              have s8 := HA.out 8 24 (by decide) f8 rfl
              simp only [List.getD_cons_succ, List.getD_cons_zero] at s8
              have f2 : fs 2 = true := by cases ho; exact HAf.out ⟨2, .chain⟩ (by simp) rfl
              have s2 := HA.out 2 18 (by decide) f2 rfl
              simp only [List.getD_cons_succ, List.getD_cons_zero] at s2
              clear HAf HA HZ
              cases ho
              go_simp
              refine (HJn.out W (HTW.out W HJ.out)).mono ?_
              rintro e w3 ⟨rfl, hb3⟩
              exact HK.out _ (bstep HJ.out hb3)
            · intro o ho fs W HFi HAf HJ A HA HZ K' HK
              have f2 : fs 2 = true := by cases ho; exact HAf.out ⟨2, .data⟩ (by simp) rfl
              have s2 := HA.out 2 18 (by decide) f2 rfl
              simp only [List.getD_cons_succ, List.getD_cons_zero] at s2
              have f9 : fs 9 = true := by cases ho; exact HAf.out ⟨9, .data⟩ (by simp) rfl
              have s9 := HA.out 9 25 (by decide) f9 rfl
              simp only [List.getD_cons_succ, List.getD_cons_zero] at s9
              clear HAf HA HZ f2 f9
              cases ho
              go_simp
              exact HK.out _ HJ.out
          · intro W hJ
            simp only [canon, Act.put, List.getD_cons_succ, List.getD_cons_zero, List.drop_succ_cons, List.drop_zero, List.setIfInBounds_toArray, List.set_cons_zero, List.set_cons_succ]
            have HBW := Lib.hid hJ
            clear hJ
            have hzW := HBW.out.size
            simp only [wpList]
            refine (‹∀ (a' : Act) (w' : World), Met _ a' w' → _› _ _ ?_)
            go_meet
            exact ⟨by rw [HGy.out], Lib.hid (HWr2.out.keep HBW.out.block), Lib.hid ((HBW.out.block wr.heap.size (lt_of_block HX2.out)).trans HX2.out), Lib.hid (bstep HW2.out HBW.out), by omega⟩
      case rest =>
        obtain ⟨rfl, HWr3, HX3, HW3, hz3⟩ := hcut
        have HXL := Lib.hid (text_long x (HL.out x hxm) (HV.out x hxm))
        have HBwc := Lib.hid (show Below w.heap.size w wc from HW0.out.trans (HW3.out.mono hz0))
        have HTx := Lib.hid fun W hT => text_any x W (HL.out x hxm) (HV.out x hxm) hT
        clear HWr2 HX2 HW2 HZ2 HGB HX hc1 HWr HW HBw
        generalize hout2 : joinTk (l.take i) = out at *
        cases G with
        | true =>
          go_wp2_with fail
          refine (show Calls Tryz.prog 31 #[.pointer (some ⟨w0.heap.size, 0, none⟩), .int .u8 32] wc fun e w' => e = .returned .nilIface ∧ Wr w0.heap.size w0.heap.size (out ++ [32]) w' ∧ Wk w0.heap.size w0.heap.size wc w' from WriteByte_any w0.heap.size w0.heap.size out 32 wc HWr3.out (by omega) (by omega)).mono ?_
          rintro e w4 ⟨rfl, hw4, hk4⟩
          have HWrA := Lib.hid hw4
          have HXA := Lib.hid (hk4.blk HX3.out (by omega) (by decide))
          have HWA := Lib.hid (HW3.out.trans hk4.low)
          have hzA : w0.heap.size < w4.heap.size := by have := hk4.low.size; omega
          have HBA := Lib.hid (HBwc.out.trans (hk4.low.mono hz0))
          clear hw4 hk4
          obtain ⟨d0, d1, d2, d3, -⟩ := four_cells HXA.out
          have HTA := Lib.hid (HTx.out w4 (HT.out.below HBA.out))
          go_wp2_with fail
          refine HTA.out.mono ?_
          rintro e w5 ⟨rfl, hb5⟩
          have HWr5 := Lib.hid (HWrA.out.keep hb5.block)
          have HW5 := Lib.hid (bstep HWA.out hb5)
          have hz5 := hb5.size
          clear hb5 d0 d1 d2 d3 HTA
          have hX5 := HXL.out
          have sX5 : (ba (textTk x)).size = (textTk x).length := ba_size _
          go_wp2_with fail
          refine (WriteString_any w0.heap.size w0.heap.size (out ++ [32]) (ba (textTk x)) w5 HWr5.out (by rw [sX5]; first | omega | (simp only [List.length_append, List.length_singleton]; omega)) (by omega)).mono ?_
          rintro e w6 ⟨rfl, hw6, hk6⟩
          rw [bl_ba] at hw6
          have HO := Lib.hid (show joinTk (l.take (i + 1)) = (out ++ [32]) ++ textTk x from by rw [HST.out]; simp)
          rw [← HO.out] at hw6
          have HWr6 := Lib.hid hw6
          have HW6 := Lib.hid (HW5.out.trans hk6.low)
          have hz6 := hk6.low.size
          clear hw6 hk6 HO
          go_wp2_with fail
          refine (Tryz.Builder_Len_f w0.heap.size w0.heap.size _ w6 HWr6.out).mono ?_
          rintro e w7 ⟨rfl, rfl⟩
          rw [Lib.byteCells_length]
          by_cases hlong : 65536 < (joinTk (l.take (i + 1))).length
          · have xl : (65536 : Int) < ((joinTk (l.take (i + 1))).length : Int) := by omega
            have HR := Lib.hid (joinR_long HVA.out (Nat.lt_of_lt_of_le hlong (by have h := join_mono l l.length (Nat.le_refl _) (i + 1) hlt; rw [List.take_length] at h; exact h)))
            go_wp2_with fail
            go_ret2
            exact ⟨by rw [HR.out]; rfl, HW0.out.trans (HW6.out.mono hz0)⟩
          · have xl : ¬ (65536 : Int) < ((joinTk (l.take (i + 1))).length : Int) := by omega
            go_wp2_with fail
            go_roundw
            case rel => exact ⟨i + 1, by go_num, by omega, by omega, HWr6, HW6, by omega⟩
            case measure => simp only [intOf]; omega
        | false =>
          have HWrA := HWr3
          have HXA := HX3
          have HWA := HW3
          have hzA := hz3
          have HBA := HBwc
          obtain ⟨d0, d1, d2, d3, -⟩ := four_cells HXA.out
          have HTA := Lib.hid (HTx.out wc (HT.out.below HBA.out))
          go_wp2_with fail
          refine HTA.out.mono ?_
          rintro e w5 ⟨rfl, hb5⟩
          have HWr5 := Lib.hid (HWrA.out.keep hb5.block)
          have HW5 := Lib.hid (bstep HWA.out hb5)
          have hz5 := hb5.size
          clear hb5 d0 d1 d2 d3 HTA
          have hX5 := HXL.out
          have sX5 : (ba (textTk x)).size = (textTk x).length := ba_size _
          go_wp2_with fail
          refine (WriteString_any w0.heap.size w0.heap.size (out) (ba (textTk x)) w5 HWr5.out (by rw [sX5]; first | omega | (simp only [List.length_append, List.length_singleton]; omega)) (by omega)).mono ?_
          rintro e w6 ⟨rfl, hw6, hk6⟩
          rw [bl_ba] at hw6
          have HO := Lib.hid (show joinTk (l.take (i + 1)) = (out) ++ textTk x from by rw [HST.out]; simp)
          rw [← HO.out] at hw6
          have HWr6 := Lib.hid hw6
          have HW6 := Lib.hid (HW5.out.trans hk6.low)
          have hz6 := hk6.low.size
          clear hw6 hk6 HO
          go_wp2_with fail
          refine (Tryz.Builder_Len_f w0.heap.size w0.heap.size _ w6 HWr6.out).mono ?_
          rintro e w7 ⟨rfl, rfl⟩
          rw [Lib.byteCells_length]
          by_cases hlong : 65536 < (joinTk (l.take (i + 1))).length
          · have xl : (65536 : Int) < ((joinTk (l.take (i + 1))).length : Int) := by omega
            have HR := Lib.hid (joinR_long HVA.out (Nat.lt_of_lt_of_le hlong (by have h := join_mono l l.length (Nat.le_refl _) (i + 1) hlt; rw [List.take_length] at h; exact h)))
            go_wp2_with fail
            go_ret2
            exact ⟨by rw [HR.out]; rfl, HW0.out.trans (HW6.out.mono hz0)⟩
          · have xl : ¬ (65536 : Int) < ((joinTk (l.take (i + 1))).length : Int) := by omega
            go_wp2_with fail
            go_roundw
            case rel => exact ⟨i + 1, by go_num, by omega, by omega, HWr6, HW6, by omega⟩
            case measure => simp only [intOf]; omega
    · have x1 : ¬ (i : Int) < (l.length : Int) := by omega
      obtain rfl : i = l.length := by omega
      rw [List.take_length] at HWr hout
      have HR := Lib.hid (joinR_ok HVA.out (by omega))
      go_wp2_with fail
      refine (Tryz.Builder_String_any_f w0.heap.size w0.heap.size _ wr HWr.out (by omega)).mono ?_
      rintro e w7 ⟨rfl, -, hb7⟩
      have HB7 := Lib.hid hb7
      clear hb7
      go_wp2_with fail
      go_ret2
      exact ⟨by rw [HR.out]; rfl, HW0.out.trans ((HW.out.trans HB7.out).mono hz0)⟩
theorem Join_any (B : Nat) (l : List Tok) (v : Value) (w : World) (hr : RdK w B v l) (hB : B ≤ w.heap.size) (hl : ∀ t ∈ l, t.tx.length ≤ 1000000) (hT : Tb w) :
    Calls Tryz.prog 15 #[v] w fun e w' => e = joinV (joinR l) ∧ Below w.heap.size w w' := by
  cases hv : l.all validTk with
  | true => exact Join_ok B l v w hr hB hl hT hv
  | false => exact Join_bad B l v w hr hB hl hT hv
end Go.Proofs.YtmcnhggpmlhgeaaGreatDoor
