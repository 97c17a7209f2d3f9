/-
  Walks: (*measure).of whole; sum, Check, Valid and Size of package terms.
-/
import Derived.Test.YtgfodedmcjkmaaaDoorMeasure
namespace Go.Proofs.YtgfodedmcjkmaaaDoor
open Go.RowKit
theorem bound_item {q sk a b c X : Nat} (hq : 1 ≤ q) (h : sk + q * (a + b + 1) ≤ X + (c + 1)) (h2 : c ≤ b) : sk + q * (a + 1) ≤ X + 1 := by
  have h3 : c ≤ q * b := Nat.le_trans h2 (Nat.le_mul_of_pos_left b hq)
  rw [Nat.mul_add, Nat.mul_add] at h
  rw [Nat.mul_add]
  generalize q * a = x at h ⊢
  generalize q * b = y at h h3
  omega
theorem bound_next {q sk a b c X t : Nat} (h : sk + q * (a + b + 1) ≤ X + (c + 1)) (ht : t + 3 ≤ q + q * a) : sk + t + q * b ≤ X + c := by
  rw [Nat.mul_add, Nat.mul_add] at h
  generalize q * a = x at h ht
  generalize q * b = y at h ⊢
  omega
set_option maxHeartbeats 2000000 in
theorem of_out (f : Fd) (it : TL) (iv : Value) (w : World) (A B M s : Nat) (hs : RdS w A B it iv) (hM : Ms w M s) (hk : f.k < 0 ∨ 11 ≤ f.k) :
    Calls Tryd.prog 64 #[.pointer (some ⟨M, 0, none⟩), .agg #[.int .i64 f.k, .int .i64 f.i, .int .i64 f.g, .string f.nm, .string f.fn, .int .i64 f.ar, iv, .string f.bs, .int .i64 f.n]] w (OfR f it M s w) := by
  have HF := Lib.hid (form_out (it := it) hk)
  obtain ⟨ao, cap, rfl, -, -, -⟩ := hs
  have HM := Lib.hid hM
  clear hM
  by_cases h0 : f.k < 0
  · clear hk
    go_enter Tryd.func64, Tryd.ntmps64
    go_wp2_with fail
    go_ret
    refine ⟨ret_bool HF.out.symm, ⟨s, (HM.out.al _).al _, fun h => ?_⟩, gr_of_below (balloc (below_alloc _ _) _)⟩
    rw [HF.out] at h; cases h
  · have h1 : 11 ≤ f.k := by omega
    clear hk
    go_enter Tryd.func64, Tryd.ntmps64
    go_wp2_with fail
    go_ret
    refine ⟨ret_bool HF.out.symm, ⟨s, (HM.out.al _).al _, fun h => ?_⟩, gr_of_below (balloc (below_alloc _ _) _)⟩
    rw [HF.out] at h; cases h
/-- one step of the closure that of hands on -/
def Of1R (f : Fd) (it : TL) (M s : Nat) (w : World) (e : Ending) (w' : World) : Prop := e = .returned (.bool (!formT f it)) ∧ (∃ s' : Int, Ms w' M s' ∧ (formT f it = true → s' = ((s + wholeT f it : Nat) : Int))) ∧ w.grownBy w' (some M)
def Of1C (m : Nat) : Prop := ∀ (f : Fd) (it : TL) (iv : Value) (w : World) (A B M Hb s : Nat), it.cnt ≤ m → s + 260 * (it.cnt + 1) ≤ 1000000001 → smallT 1000000 f it → RdS w A B it iv → B ≤ M → Ms w M s → w.heap[Hb]? = some (.cells #[.pointer (some ⟨M, 0, none⟩)] 88 (0, 0)) → Calls Tryd.prog 84 #[.agg #[.int .i64 f.k, .int .i64 f.i, .int .i64 f.g, .string f.nm, .string f.fn, .int .i64 f.ar, iv, .string f.bs, .int .i64 f.n], .pointer (some ⟨Hb, 0, none⟩)] w (Of1R f it M s w)
set_option maxHeartbeats 2000000 in
theorem of1_of (m : Nat) (h : OfC m) : Of1C m := by
  intro f it iv w A B M Hb s hm hsx hsm hs hB hM hH
  have hMw := lt_of_block hM
  have HC := Lib.hid fun (W : World) (hb : Below w.heap.size w W) => h f it iv W A B M s hm hsx hsm (hs.below hb (by omega)) hB (keepB hb hM)
  obtain ⟨ao, cap, rfl, -, -, -⟩ := hs
  have HH := Lib.hid hH
  have p0 : w.cell? ⟨Hb, 0, none⟩ = some _ := cells_of hH 0
  unfold OfR at HC
  generalize hfm : formT f it = b at HC
  have HFm := Lib.hid hfm
  clear hM hH hfm h
  have hbw := lt_of_block HH.out
  go_enter Tryd.func84, Tryd.ntmps84
  go_wp2_with fail
  refine (HC.out _ (below_alloc _ _)).mono ?_
  rintro e w2 ⟨rfl, ⟨s', hms', hs'⟩, hg⟩
  have HMs' := Lib.hid hms'
  have HS' := Lib.hid hs'
  have HG := Lib.hid (gr_trans (gr_of_below (below_alloc _ _)) hg)
  clear hms' hs' hg p0
  go_wp2_with fail
  go_ret
  refine ⟨?_, ⟨s', HMs'.out, fun h => ?_⟩, HG.out⟩
  · rw [HFm.out]; rfl
  · exact HS'.out (by rw [← HFm.out]; exact h)
def IdxR (l : TL) (M s : Nat) (w : World) (e : Ending) (w' : World) : Prop := ∃ r : Int, e = .returned (.int .i64 r) ∧ decide (0 ≤ r) = !formL l ∧ -1 ≤ r ∧ (∃ s' : Int, Ms w' M s' ∧ (formL l = true → s' = ((s + wholeL l : Nat) : Int))) ∧ w.grownBy w' (some M)
def IdxC (m : Nat) : Prop := ∀ (l : TL) (v : Value) (w : World) (A B M Hb s : Nat), l.cnt ≤ m → s + 260 * l.cnt ≤ 1000000000 + l.len → l.small 1000000 → RdS w A B l v → B ≤ M → Ms w M s → w.heap[Hb]? = some (.cells #[.pointer (some ⟨M, 0, none⟩)] 88 (0, 0)) → Hb ≠ M →
  Calls Tryd.prog 92 #[v, .func (.func 84) #[] #[.pointer (some ⟨Hb, 0, none⟩)]] w (IdxR l M s w)
set_option maxHeartbeats 8000000 in
theorem idx_of (m : Nat) (hS : ∀ j, j < m → Of1C j) : IdxC m := by
  intro l v w A B M Hb s hm hsx hsm hs hB hM hH hne
  have hMw := lt_of_block hM
  have HSM := Lib.hid hsm
  obtain ⟨ao, cap, rfl, hcap, hmax, hr⟩ := hs
  unfold maxLen at hmax
  have HR := Lib.hid hr
  have HS := Lib.hid hS
  have HM := Lib.hid hM
  have HH := Lib.hid hH
  have hbw := lt_of_block hH
  clear hr hS hM hH hsm
  go_enter Tryd.func92, Tryd.ntmps92
  go_wp2_with fail
  go_loopw [8] (fun i wr => ∃ k sk : Nat, k ≤ l.len ∧ i = .int .i64 k ∧ Hid (sk + 260 * (l.drop k).cnt ≤ 1000000000 + (l.drop k).len) ∧ Hid (formL l = formL (l.drop k)) ∧ Hid (sk + wholeL (l.drop k) = s + wholeL l) ∧ Hid (Ms wr M sk) ∧ Hid (wr.heap[Hb]? = some (.cells #[.pointer (some ⟨M, 0, none⟩)] 88 (0, 0))) ∧ Hid (w.grownBy wr (some M))) (fun i _ => l.len - (intOf i).toNat)
  case atStart => exact ⟨0, s, Nat.zero_le _, rfl, Lib.hid (by rw [TL.drop_zero]; exact hsx), Lib.hid (by rw [TL.drop_zero]), Lib.hid (by rw [TL.drop_zero]), HM, HH, Lib.hid (World.grownBy.refl _ _)⟩
  case round =>
    obtain ⟨k, sk, hk, rfl, HSK, HE, HW, HMr, HHr, HG⟩ := hrel
    have hMr := lt_of_block HMr.out
    by_cases hlt : k < l.len
    · have hlt' : (k : Int) < (l.len : Int) := by omega
      have q1 : (0 : Int) ≤ (k : Int) := by omega
      obtain ⟨f, it, e1⟩ := TL.drop_at l k hlt
      obtain ⟨b, o, rfl, hrd⟩ := HR.out (by intro e; rw [e] at hlt; simp [TL.len] at hlt)
      have hbl := gr_below HG.out hB hMw
      obtain ⟨hb, ai, ci, ⟨c0, c1, c2, c3, c4, c5, c6, c7, c8⟩, hit⟩ := Rd.nine hrd e1 (below_cells hbl (Nat.le_refl _))
      have hcnt : it.cnt < m := by
        have h1 := TL.cnt_drop l k
        rw [e1] at h1
        simp only [TL.cnt] at h1
        omega
      have hll := TL.len_le_cnt (l.drop (k + 1))
      have hsk2 := HSK.out
      rw [e1] at hsk2
      simp only [TL.cnt, TL.len] at hsk2
      have HSK2 := Lib.hid hsk2
      have hcall := HS.out it.cnt hcnt f it (.slice ai it.len ci) wr A B M Hb sk (Nat.le_refl _) (bound_item (q := 260) (X := 1000000000) (by decide) hsk2 hll) (small_at HSM.out e1) hit hB HMr.out HHr.out
      have hfl := formL_drop e1 HE.out
      have hwd := whole_drop e1
      have HWT := Lib.hid (fun h : formT f it = true => wholeT_le2 h)
      have HW2 := Lib.hid (show sk + (wholeT f it + wholeL (l.drop (k + 1))) = s + wholeL l by rw [← hwd]; exact HW.out)
      unfold Of1R at hcall
      generalize hfm : formT f it = b at hcall hfl HWT
      have HCall := Lib.hid hcall
      have HFL := Lib.hid hfl
      clear hsk2 hrd hit hcall e1 hfl hbl hwd hfm
      go_wp2_with fail
      refine HCall.out.mono ?_
      rintro e w2 ⟨rfl, ⟨s', hms', hs'⟩, hg⟩
      have HMs' := Lib.hid hms'
      have HS' := Lib.hid hs'
      have HH2 := Lib.hid (gr_keep hg HHr.out hne)
      have HG2 := Lib.hid (gr_trans HG.out hg)
      clear hms' hs' hg c0 c1 c2 c3 c4 c5 c6 c7 c8
      cases b
      · have HF := Lib.hid (show formL l = false by rw [HFL.out]; rfl)
        go_wp2_with fail
        go_ret
        refine ⟨(k : Int), rfl, ?_, by omega, ⟨s', HMs'.out, fun h => ?_⟩, HG2.out⟩
        · rw [HF.out]; simp
        · rw [HF.out] at h; cases h
      · have hs2 := HS'.out rfl
        subst hs2
        have hwt := HWT.out rfl
        go_wp2_with fail
        refine ⟨⟨k + 1, sk + wholeT f it, by omega, by go_num, Lib.hid (bound_next (q := 260) HSK2.out (by rw [Nat.add_comm 260]; exact Nat.le_trans (Nat.add_le_add_right hwt 3) (by rw [Nat.add_comm 257, Nat.add_assoc]; exact Nat.le_refl _))), Lib.hid (by rw [HFL.out, Bool.true_and]), Lib.hid (by have := HW2.out; omega), HMs', HH2, HG2⟩, by simp only [intOf]; omega⟩
    · have hlt' : ¬ (k : Int) < (l.len : Int) := by omega
      have HF := Lib.hid (show formL l = true by rw [HE.out, TL.drop_len l k (by omega)]; rfl)
      have HW3 := Lib.hid (show sk = s + wholeL l by have := HW.out; rw [TL.drop_len l k (by omega)] at this; simpa [wholeL] using this)
      go_wp2_with fail
      go_ret
      exact ⟨-1, rfl, by rw [HF.out]; rfl, by omega, ⟨sk, HMr.out, fun _ => by rw [HW3.out]⟩, HG.out⟩
set_option maxHeartbeats 2000000 in
theorem cont_of (m : Nat) (h : IdxC m) : ContC m := by
  intro l v w A B M Hb s hm hsx hsm hs hB hM hH hne
  have HC := Lib.hid (h l v w A B M Hb s hm hsx hsm hs hB hM hH hne)
  obtain ⟨ao, cap, rfl, -, -, -⟩ := hs
  clear hM hH h hsm
  go_enter Tryd.func83, Tryd.ntmps83
  go_wp2_with fail
  refine HC.out.mono ?_
  rintro e w2 ⟨r, rfl, hr, hr1, hx, hg⟩
  have HR := Lib.hid hr
  have HX := Lib.hid hx
  have HG := Lib.hid hg
  clear hr hx hg
  go_wp2_with fail
  go_ret
  exact ⟨ret_bool HR.out, HX.out, HG.out⟩
theorem of_of (m : Nat) (h : ContC m) : OfC m := by
  intro f it iv w A B M s hm hsx hsm hs hB hM
  by_cases hk : f.k < 0 ∨ 11 ≤ f.k
  · exact of_out f it iv w A B M s hs hM hk
  · exact of_in m h f it iv w A B M s f.k.toNat hm hsx hsm hs hB hM (by omega) (by omega)
theorem of_all (m : Nat) : OfC m := by
  induction m using Nat.strongRecOn with
  | _ m ih => exact of_of m (cont_of m (idx_of m fun j hj => of1_of j (ih j hj)))
/-- what sum answers -/
noncomputable def sumN (l : TL) : Int := if formL l then ((wholeL l : Nat) : Int) else 0
def SumR (l : TL) (w : World) (e : Ending) (w' : World) : Prop := e = .returned (.tuple #[.int .i64 (sumN l), .bool (formL l)]) ∧ Below w.heap.size w w'
set_option maxHeartbeats 8000000 in
theorem sum_any (l : TL) (v : Value) (w : World) (A B : Nat) (hm : l.cnt ≤ 1000001) (hsm : l.small 1000000) (hs : RdS w A B l v) (hB : B ≤ w.heap.size) :
    Calls Tryd.prog 51 #[v] w (SumR l w) := by
  have HSM := Lib.hid hsm
  obtain ⟨ao, cap, rfl, hcap, hmax, hr⟩ := hs
  unfold maxLen at hmax
  have HR := Lib.hid hr
  have HKs := Lib.hid kinds_any
  clear hr hsm
  go_enter Tryd.func51, Tryd.ntmps51
  go_wp2_with fail
  refine (HKs.out _).mono ?_
  rintro e w1 ⟨rfl, hb1⟩
  have HB1 := Lib.hid hb1
  have hz1 := hb1.size
  clear hb1
  have HM0 := Lib.hid (show Ms (w1.alloc (.cells #[.func (.func 73) #[] #[], .func (.func 74) #[] #[], .func (.func 75) #[] #[], .func (.func 70) #[] #[], .func (.func 76) #[] #[], .func (.func 77) #[] #[], .func (.func 70) #[] #[], .func (.func 78) #[] #[], .func (.func 79) #[] #[], .func (.func 80) #[] #[], .func (.func 81) #[] #[], .int .i64 0] 93 (0, 0))) w1.heap.size ((0 : Nat) : Int) from heap_alloc_new _ _)
  go_wp2_with fail
  go_loopw [15] (fun i wr => ∃ k sk : Nat, k ≤ l.len ∧ i = .int .i64 k ∧ Hid (sk + 260 * (l.drop k).cnt ≤ 260000260 + (l.drop k).len) ∧ Hid (formL l = formL (l.drop k)) ∧ Hid (sk + wholeL (l.drop k) = wholeL l) ∧ Hid (Ms wr w1.heap.size sk) ∧ Hid (Below w.heap.size w wr)) (fun i _ => l.len - (intOf i).toNat)
  case atStart => exact ⟨0, 0, Nat.zero_le _, rfl, Lib.hid (by rw [TL.drop_zero]; omega), Lib.hid (by rw [TL.drop_zero]), Lib.hid (by rw [TL.drop_zero, Nat.zero_add]), HM0, Lib.hid (balloc HB1.out _)⟩
  case round =>
    obtain ⟨k, sk, hk, rfl, HSK, HE, HW, HMr, HB⟩ := hrel
    have hMr := lt_of_block HMr.out
    by_cases hlt : k < l.len
    · have hlt' : (k : Int) < (l.len : Int) := by omega
      have q1 : (0 : Int) ≤ (k : Int) := by omega
      obtain ⟨f, it, e1⟩ := TL.drop_at l k hlt
      obtain ⟨b, o, rfl, hrd⟩ := HR.out (by intro e; rw [e] at hlt; simp [TL.len] at hlt)
      obtain ⟨hb, ai, ci, ⟨c0, c1, c2, c3, c4, c5, c6, c7, c8⟩, hit⟩ := Rd.nine hrd e1 (below_cells HB.out hB)
      have hll := TL.len_le_cnt (l.drop (k + 1))
      have hsk2 := HSK.out
      rw [e1] at hsk2
      simp only [TL.cnt, TL.len] at hsk2
      have HSK2 := Lib.hid hsk2
      have hcall := fun o : Obj => of_all it.cnt f it (.slice ai it.len ci) (wr.alloc o) A B w1.heap.size sk (Nat.le_refl _) (Nat.le_trans (bound_item (q := 260) (X := 260000260) (by decide) hsk2 hll) (by decide)) (small_at HSM.out e1) (hit.below (below_alloc wr o) (by omega)) (by omega) (HMr.out.al o)
      have hfl := formL_drop e1 HE.out
      have hwd := whole_drop e1
      have HWT := Lib.hid (fun h : formT f it = true => wholeT_le2 h)
      have HW2 := Lib.hid (show sk + (wholeT f it + wholeL (l.drop (k + 1))) = wholeL l by rw [← hwd]; exact HW.out)
      unfold OfR at hcall
      generalize hfm : formT f it = b at hcall hfl HWT
      have HCall := Lib.hid hcall
      have HFL := Lib.hid hfl
      clear hsk2 hrd hit hcall e1 hfl hwd hfm
      go_wp2_with fail
      refine (HCall.out _).mono ?_
      rintro e w2 ⟨rfl, ⟨s', hms', hs'⟩, hg⟩
      have HMs' := Lib.hid hms'
      have HS' := Lib.hid hs'
      have HB2 := Lib.hid (show Below w.heap.size w w2 from (balloc HB.out _).trans (gr_below hg hz1 (by simp; omega)))
      clear hms' hs' hg c0 c1 c2 c3 c4 c5 c6 c7 c8
      cases b
      · have HF := Lib.hid (show formL l = false by rw [HFL.out]; rfl)
        go_wp2_with fail
        go_ret2
        exact ⟨by unfold sumN; rw [HF.out]; rfl, HB2.out⟩
      · have hs2 := HS'.out rfl
        subst hs2
        have hwt := HWT.out rfl
        go_wp2_with fail
        refine ⟨⟨k + 1, sk + wholeT f it, by omega, by go_num, Lib.hid (bound_next (q := 260) HSK2.out (by rw [Nat.add_comm 260]; exact Nat.le_trans (Nat.add_le_add_right hwt 3) (by rw [Nat.add_comm 257, Nat.add_assoc]; exact Nat.le_refl _))), Lib.hid (by rw [HFL.out, Bool.true_and]), Lib.hid (by have := HW2.out; omega), HMs', HB2⟩, by simp only [intOf]; omega⟩
    · have hlt' : ¬ (k : Int) < (l.len : Int) := by omega
      have HF := Lib.hid (show formL l = true by rw [HE.out, TL.drop_len l k (by omega)]; rfl)
      have HW3 := Lib.hid (show sk = wholeL l by have := HW.out; rw [TL.drop_len l k (by omega)] at this; simpa [wholeL] using this)
      have m11 : wr.cell? ⟨w1.heap.size, 11, none⟩ = some (.int .i64 (sk : Int)) := cells_of HMr.out 11
      go_wp2_with fail
      go_ret2
      exact ⟨by unfold sumN; rw [HF.out, ← HW3.out]; rfl, HB.out⟩
end Go.Proofs.YtgfodedmcjkmaaaDoor
