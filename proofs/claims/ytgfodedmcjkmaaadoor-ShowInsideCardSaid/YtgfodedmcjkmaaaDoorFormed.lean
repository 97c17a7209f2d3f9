/-
  Walks: the reference's Formed, of any size.
-/
import Derived.Test.YtgfodedmcjkmaaaDoorRBits
namespace Go.Proofs.YtgfodedmcjkmaaaDoor
open Go.RowKit
open Go.Proofs.BitsM
def FormedR (f : Fd) (it : TL) (w : World) (e : Ending) (w' : World) : Prop := e = .returned (.bool (formT f it)) ∧ Below w.heap.size w w'
def FormedC (m : Nat) : Prop := ∀ (f : Fd) (it : TL) (iv : Value) (w : World) (A B : Nat), it.cnt ≤ m → smallT 1000000 f it → RdS w A B it iv → B ≤ w.heap.size → Calls Tryd.prog 28 #[.agg #[.int .i64 f.k, .int .i64 f.i, .int .i64 f.g, .string f.nm, .string f.fn, .int .i64 f.ar, iv, .string f.bs, .int .i64 f.n]] w (FormedR f it w)
theorem formT_zero {f : Fd} {it : TL} (h : zeroB (bareF f) (bareN f it.len) = false) : formT f it = false := by unfold formT nodeB; rw [h]; rfl
theorem formT_items {f : Fd} {it : TL} (h : formL it = false) : formT f it = false := by unfold formT; rw [h, Bool.and_false]
theorem formT_ok {f : Fd} {it : TL} (h : zeroB (bareF f) (bareN f it.len) = true) (h2 : formL it = true) : formT f it = okK f it := by unfold formT nodeB; rw [h, h2, Bool.and_true, Bool.true_and]
set_option maxHeartbeats 8000000 in
set_option maxRecDepth 100000 in
theorem formed_k1 (m : Nat) (hS : ∀ j, j < m → FormedC j) (f : Fd) (it : TL) (iv : Value) (w : World) (A B : Nat) (hm : it.cnt ≤ m) (hsm : smallT 1000000 f it) (hs : RdS w A B it iv) (hB : B ≤ w.heap.size) (hk : f.k = 1) :
    Calls Tryd.prog 28 #[.agg #[.int .i64 f.k, .int .i64 f.i, .int .i64 f.g, .string f.nm, .string f.fn, .int .i64 f.ar, iv, .string f.bs, .int .i64 f.n]] w (FormedR f it w) := by
  have HIT := Lib.hid hs
  have HK := Lib.hid hk
  clear hk
  obtain ⟨ao, cap, rfl, hcap, hmax, hr⟩ := hs
  unfold maxLen at hmax
  have HR := Lib.hid hr
  have HS := Lib.hid hS
  have HSM := Lib.hid hsm
  have HBare := Lib.hid (bare_any f ao it.len cap)
  clear hr hS hsm
  have hz : ∀ (W : World) ai ci, Calls Tryd.prog 45 #[.agg #[.int .i64 (bareF f).k, .int .i64 (bareF f).i, .int .i64 (bareF f).g, .string (bareF f).nm, .string (bareF f).fn, .int .i64 (bareF f).ar, .slice ai (bareN f it.len) ci, .string (bareF f).bs, .int .i64 (bareF f).n]] W fun e w' => e = .returned (.bool (zeroB (bareF f) (bareN f it.len))) ∧ Below W.heap.size W w' := fun W ai ci => zero_any (bareF f) ai (bareN f it.len) ci W
  by_cases hzz : zeroB (bareF f) (bareN f it.len) = true
  case neg =>
    have hzf : zeroB (bareF f) (bareN f it.len) = false := by simpa using hzz
    have HF := Lib.hid (formT_zero hzf)
    rw [hzf] at hz
    have HZ := Lib.hid hz
    clear hz hzz hzf
    go_enter Tryd.func28, Tryd.ntmps28
    go_wp2_with fail
    refine (HBare.out _).mono ?_
    rintro e w1 ⟨ai, ci, rfl, hb1⟩
    have HB1 := Lib.hid (bstep (below_alloc _ _) hb1)
    clear hb1
    go_wp2_with fail
    refine (HZ.out _ _ _).mono ?_
    rintro e w2 ⟨rfl, hb2⟩
    go_wp2_with fail
    go_ret
    exact ⟨ret_bool HF.out.symm, bstep HB1.out hb2⟩
  rw [hzz] at hz
  have HZ := Lib.hid hz
  have HZZ := Lib.hid hzz
  clear hz hzz
  have hk := HK.out
  have x1 : (f.k == 1) = true := by simp [hk]
  have x2 : (f.k == 2) = false := by simp [hk]
  have x3 : (f.k == 3) = false := by simp [hk]
  have x4 : (f.k == 4) = false := by simp [hk]
  have x5 : (f.k == 5) = false := by simp [hk]
  have x6 : (f.k == 6) = false := by simp [hk]
  have x7 : (f.k == 7) = false := by simp [hk]
  have x8 : (f.k == 8) = false := by simp [hk]
  have x9 : (f.k == 9) = false := by simp [hk]
  have x10 : (f.k == 10) = false := by simp [hk]
  have HOK := Lib.hid (show okK f it = true by unfold okK; simp [hk])
  clear hk
  go_enter Tryd.func28, Tryd.ntmps28
  go_wp2_with fail
  refine (HBare.out _).mono ?_
  rintro e w1 ⟨ai, ci, rfl, hb1⟩
  have HX1 := Lib.hid (keepB hb1 (heap_alloc_new w _))
  have HB1 := Lib.hid (bstep (below_alloc _ _) hb1)
  clear hb1
  go_wp2_with fail
  refine (HZ.out _ _ _).mono ?_
  rintro e w2 ⟨rfl, hb2⟩
  have HX2 := Lib.hid (keepB hb2 HX1.out)
  have HB2 := Lib.hid (bstep HB1.out hb2)
  clear hb2 HX1 HB1 HBare HZ
  go_wp2_with fail
  go_loopw [3] (fun i wr => ∃ k : Nat, k ≤ it.len ∧ i = .int .i64 k ∧ Hid (formL it = formL (it.drop k)) ∧ Hid (wr.heap[w.heap.size]? = some (.cells #[.int .i64 f.k, .int .i64 f.i, .int .i64 f.g, .string f.nm, .string f.fn, .int .i64 f.ar, .slice ao it.len cap, .string f.bs, .int .i64 f.n] 24 (0, 0))) ∧ Hid (Below w.heap.size w wr)) (fun i _ => it.len - (intOf i).toNat)
  case atStart => exact ⟨0, Nat.zero_le _, rfl, Lib.hid (by rw [TL.drop_zero]), HX2, HB2⟩
  case round =>
    obtain ⟨k, hk, rfl, HE, HX, HB⟩ := hrel
    have b0 : wr.cell? ⟨w.heap.size, 0, none⟩ = some _ := cells_of HX.out 0
    have b1 : wr.cell? ⟨w.heap.size, 1, none⟩ = some _ := cells_of HX.out 1
    have b2 : wr.cell? ⟨w.heap.size, 2, none⟩ = some _ := cells_of HX.out 2
    have b3 : wr.cell? ⟨w.heap.size, 3, none⟩ = some _ := cells_of HX.out 3
    have b4 : wr.cell? ⟨w.heap.size, 4, none⟩ = some _ := cells_of HX.out 4
    have b5 : wr.cell? ⟨w.heap.size, 5, none⟩ = some _ := cells_of HX.out 5
    have b6 : wr.cell? ⟨w.heap.size, 6, none⟩ = some _ := cells_of HX.out 6
    have b7 : wr.cell? ⟨w.heap.size, 7, none⟩ = some _ := cells_of HX.out 7
    have b8 : wr.cell? ⟨w.heap.size, 8, none⟩ = some _ := cells_of HX.out 8
    by_cases hlt : k < it.len
    · have hlt' : (k : Int) < (it.len : Int) := by omega
      obtain ⟨f2, it2, e1⟩ := TL.drop_at it k hlt
      obtain ⟨b, o, rfl, hrd⟩ := HR.out (by intro e; rw [e] at hlt; simp [TL.len] at hlt)
      obtain ⟨hb, ai2, ci2, ⟨c0, c1, c2, c3, c4, c5, c6, c7, c8⟩, hit⟩ := Rd.nine hrd e1 (below_cells HB.out hB)
      have hcnt : it2.cnt < m := by
        have h1 := TL.cnt_drop it k
        rw [e1] at h1
        simp only [TL.cnt] at h1
        omega
      have hcall := HS.out it2.cnt hcnt f2 it2 (.slice ai2 it2.len ci2) wr A B (Nat.le_refl _) (small_at HSM.out.2.2.2 e1) hit (Nat.le_trans hB HB.out.size)
      have hfl := formL_drop e1 HE.out
      unfold FormedR at hcall
      generalize formT f2 it2 = s at hcall hfl
      have HCall := Lib.hid hcall
      have HFL := Lib.hid hfl
      clear hrd hit hcall e1 hfl
      go_wp2_with fail
      refine HCall.out.mono ?_
      rintro e w3 ⟨rfl, hb3⟩
      have HX3 := Lib.hid (keepB hb3 HX.out)
      have HB3 := Lib.hid (bstep HB.out hb3)
      clear hb3 c0 c1 c2 c3 c4 c5 c6 c7 c8 b0 b1 b2 b3 b4 b5 b6 b7 b8
      cases s
      · have HF := Lib.hid (formT_items (f := f) (show formL it = false by rw [HFL.out]; rfl))
        go_wp2_with fail
        go_ret
        exact ⟨ret_bool HF.out.symm, HB3.out⟩
      · go_wp2_with fail
        refine ⟨⟨k + 1, by omega, by go_num, Lib.hid (by rw [HFL.out, Bool.true_and]), HX3, HB3⟩, by simp only [intOf]; omega⟩
    · have hlt' : ¬ (k : Int) < (it.len : Int) := by omega
      have hfin := formT_ok HZZ.out (show formL it = true by rw [HE.out, TL.drop_len it k (by omega)]; rfl)
      rw [HOK.out] at hfin
      have HF := Lib.hid hfin
      clear hfin
      go_wp2_with fail
      go_ret
      exact ⟨ret_bool HF.out.symm, HB.out⟩
set_option maxHeartbeats 8000000 in
set_option maxRecDepth 100000 in
theorem formed_k2 (m : Nat) (hS : ∀ j, j < m → FormedC j) (f : Fd) (it : TL) (iv : Value) (w : World) (A B : Nat) (hm : it.cnt ≤ m) (hsm : smallT 1000000 f it) (hs : RdS w A B it iv) (hB : B ≤ w.heap.size) (hk : f.k = 2) :
    Calls Tryd.prog 28 #[.agg #[.int .i64 f.k, .int .i64 f.i, .int .i64 f.g, .string f.nm, .string f.fn, .int .i64 f.ar, iv, .string f.bs, .int .i64 f.n]] w (FormedR f it w) := by
  have HIT := Lib.hid hs
  have HK := Lib.hid hk
  clear hk
  obtain ⟨ao, cap, rfl, hcap, hmax, hr⟩ := hs
  unfold maxLen at hmax
  have HR := Lib.hid hr
  have HS := Lib.hid hS
  have HSM := Lib.hid hsm
  have HBare := Lib.hid (bare_any f ao it.len cap)
  clear hr hS hsm
  have hz : ∀ (W : World) ai ci, Calls Tryd.prog 45 #[.agg #[.int .i64 (bareF f).k, .int .i64 (bareF f).i, .int .i64 (bareF f).g, .string (bareF f).nm, .string (bareF f).fn, .int .i64 (bareF f).ar, .slice ai (bareN f it.len) ci, .string (bareF f).bs, .int .i64 (bareF f).n]] W fun e w' => e = .returned (.bool (zeroB (bareF f) (bareN f it.len))) ∧ Below W.heap.size W w' := fun W ai ci => zero_any (bareF f) ai (bareN f it.len) ci W
  by_cases hzz : zeroB (bareF f) (bareN f it.len) = true
  case neg =>
    have hzf : zeroB (bareF f) (bareN f it.len) = false := by simpa using hzz
    have HF := Lib.hid (formT_zero hzf)
    rw [hzf] at hz
    have HZ := Lib.hid hz
    clear hz hzz hzf
    go_enter Tryd.func28, Tryd.ntmps28
    go_wp2_with fail
    refine (HBare.out _).mono ?_
    rintro e w1 ⟨ai, ci, rfl, hb1⟩
    have HB1 := Lib.hid (bstep (below_alloc _ _) hb1)
    clear hb1
    go_wp2_with fail
    refine (HZ.out _ _ _).mono ?_
    rintro e w2 ⟨rfl, hb2⟩
    go_wp2_with fail
    go_ret
    exact ⟨ret_bool HF.out.symm, bstep HB1.out hb2⟩
  rw [hzz] at hz
  have HZ := Lib.hid hz
  have HZZ := Lib.hid hzz
  clear hz hzz
  have hk := HK.out
  have x1 : (f.k == 1) = false := by simp [hk]
  have x2 : (f.k == 2) = true := by simp [hk]
  have x3 : (f.k == 3) = false := by simp [hk]
  have x4 : (f.k == 4) = false := by simp [hk]
  have x5 : (f.k == 5) = false := by simp [hk]
  have x6 : (f.k == 6) = false := by simp [hk]
  have x7 : (f.k == 7) = false := by simp [hk]
  have x8 : (f.k == 8) = false := by simp [hk]
  have x9 : (f.k == 9) = false := by simp [hk]
  have x10 : (f.k == 10) = false := by simp [hk]
  have HOK := Lib.hid (show okK f it = nameB f.nm by unfold okK; simp [hk])
  clear hk
  go_enter Tryd.func28, Tryd.ntmps28
  go_wp2_with fail
  refine (HBare.out _).mono ?_
  rintro e w1 ⟨ai, ci, rfl, hb1⟩
  have HX1 := Lib.hid (keepB hb1 (heap_alloc_new w _))
  have HB1 := Lib.hid (bstep (below_alloc _ _) hb1)
  clear hb1
  go_wp2_with fail
  refine (HZ.out _ _ _).mono ?_
  rintro e w2 ⟨rfl, hb2⟩
  have HX2 := Lib.hid (keepB hb2 HX1.out)
  have HB2 := Lib.hid (bstep HB1.out hb2)
  clear hb2 HX1 HB1 HBare HZ
  go_wp2_with fail
  go_loopw [3] (fun i wr => ∃ k : Nat, k ≤ it.len ∧ i = .int .i64 k ∧ Hid (formL it = formL (it.drop k)) ∧ Hid (wr.heap[w.heap.size]? = some (.cells #[.int .i64 f.k, .int .i64 f.i, .int .i64 f.g, .string f.nm, .string f.fn, .int .i64 f.ar, .slice ao it.len cap, .string f.bs, .int .i64 f.n] 24 (0, 0))) ∧ Hid (Below w.heap.size w wr)) (fun i _ => it.len - (intOf i).toNat)
  case atStart => exact ⟨0, Nat.zero_le _, rfl, Lib.hid (by rw [TL.drop_zero]), HX2, HB2⟩
  case round =>
    obtain ⟨k, hk, rfl, HE, HX, HB⟩ := hrel
    have b0 : wr.cell? ⟨w.heap.size, 0, none⟩ = some _ := cells_of HX.out 0
    have b1 : wr.cell? ⟨w.heap.size, 1, none⟩ = some _ := cells_of HX.out 1
    have b2 : wr.cell? ⟨w.heap.size, 2, none⟩ = some _ := cells_of HX.out 2
    have b3 : wr.cell? ⟨w.heap.size, 3, none⟩ = some _ := cells_of HX.out 3
    have b4 : wr.cell? ⟨w.heap.size, 4, none⟩ = some _ := cells_of HX.out 4
    have b5 : wr.cell? ⟨w.heap.size, 5, none⟩ = some _ := cells_of HX.out 5
    have b6 : wr.cell? ⟨w.heap.size, 6, none⟩ = some _ := cells_of HX.out 6
    have b7 : wr.cell? ⟨w.heap.size, 7, none⟩ = some _ := cells_of HX.out 7
    have b8 : wr.cell? ⟨w.heap.size, 8, none⟩ = some _ := cells_of HX.out 8
    by_cases hlt : k < it.len
    · have hlt' : (k : Int) < (it.len : Int) := by omega
      obtain ⟨f2, it2, e1⟩ := TL.drop_at it k hlt
      obtain ⟨b, o, rfl, hrd⟩ := HR.out (by intro e; rw [e] at hlt; simp [TL.len] at hlt)
      obtain ⟨hb, ai2, ci2, ⟨c0, c1, c2, c3, c4, c5, c6, c7, c8⟩, hit⟩ := Rd.nine hrd e1 (below_cells HB.out hB)
      have hcnt : it2.cnt < m := by
        have h1 := TL.cnt_drop it k
        rw [e1] at h1
        simp only [TL.cnt] at h1
        omega
      have hcall := HS.out it2.cnt hcnt f2 it2 (.slice ai2 it2.len ci2) wr A B (Nat.le_refl _) (small_at HSM.out.2.2.2 e1) hit (Nat.le_trans hB HB.out.size)
      have hfl := formL_drop e1 HE.out
      unfold FormedR at hcall
      generalize formT f2 it2 = s at hcall hfl
      have HCall := Lib.hid hcall
      have HFL := Lib.hid hfl
      clear hrd hit hcall e1 hfl
      go_wp2_with fail
      refine HCall.out.mono ?_
      rintro e w3 ⟨rfl, hb3⟩
      have HX3 := Lib.hid (keepB hb3 HX.out)
      have HB3 := Lib.hid (bstep HB.out hb3)
      clear hb3 c0 c1 c2 c3 c4 c5 c6 c7 c8 b0 b1 b2 b3 b4 b5 b6 b7 b8
      cases s
      · have HF := Lib.hid (formT_items (f := f) (show formL it = false by rw [HFL.out]; rfl))
        go_wp2_with fail
        go_ret
        exact ⟨ret_bool HF.out.symm, HB3.out⟩
      · go_wp2_with fail
        refine ⟨⟨k + 1, by omega, by go_num, Lib.hid (by rw [HFL.out, Bool.true_and]), HX3, HB3⟩, by simp only [intOf]; omega⟩
    · have hlt' : ¬ (k : Int) < (it.len : Int) := by omega
      have hfin := formT_ok HZZ.out (show formL it = true by rw [HE.out, TL.drop_len it k (by omega)]; rfl)
      rw [HOK.out] at hfin
      have HF := Lib.hid hfin
      clear hfin
      have H0 := Lib.hid (fun W => Name_any f.nm (Nat.le_trans HSM.out.1 (by decide)) W)
      generalize nameB f.nm = b0x at H0 HF
      cases b0x
      case false =>
        go_wp2_with (first | (go_at_call 47; with_reducible refine (H0.out _).mono ?_; rintro e w' ⟨rfl, rfl⟩))
        go_ret
        exact ⟨ret_bool HF.out.symm, HB.out⟩
      go_wp2_with (first | (go_at_call 47; with_reducible refine (H0.out _).mono ?_; rintro e w' ⟨rfl, rfl⟩))
      go_ret
      exact ⟨ret_bool HF.out.symm, HB.out⟩
set_option maxHeartbeats 8000000 in
set_option maxRecDepth 100000 in
theorem formed_k3 (m : Nat) (hS : ∀ j, j < m → FormedC j) (f : Fd) (it : TL) (iv : Value) (w : World) (A B : Nat) (hm : it.cnt ≤ m) (hsm : smallT 1000000 f it) (hs : RdS w A B it iv) (hB : B ≤ w.heap.size) (hk : f.k = 3) :
    Calls Tryd.prog 28 #[.agg #[.int .i64 f.k, .int .i64 f.i, .int .i64 f.g, .string f.nm, .string f.fn, .int .i64 f.ar, iv, .string f.bs, .int .i64 f.n]] w (FormedR f it w) := by
  have HIT := Lib.hid hs
  have HK := Lib.hid hk
  clear hk
  obtain ⟨ao, cap, rfl, hcap, hmax, hr⟩ := hs
  unfold maxLen at hmax
  have HR := Lib.hid hr
  have HS := Lib.hid hS
  have HSM := Lib.hid hsm
  have HBare := Lib.hid (bare_any f ao it.len cap)
  clear hr hS hsm
  have hz : ∀ (W : World) ai ci, Calls Tryd.prog 45 #[.agg #[.int .i64 (bareF f).k, .int .i64 (bareF f).i, .int .i64 (bareF f).g, .string (bareF f).nm, .string (bareF f).fn, .int .i64 (bareF f).ar, .slice ai (bareN f it.len) ci, .string (bareF f).bs, .int .i64 (bareF f).n]] W fun e w' => e = .returned (.bool (zeroB (bareF f) (bareN f it.len))) ∧ Below W.heap.size W w' := fun W ai ci => zero_any (bareF f) ai (bareN f it.len) ci W
  by_cases hzz : zeroB (bareF f) (bareN f it.len) = true
  case neg =>
    have hzf : zeroB (bareF f) (bareN f it.len) = false := by simpa using hzz
    have HF := Lib.hid (formT_zero hzf)
    rw [hzf] at hz
    have HZ := Lib.hid hz
    clear hz hzz hzf
    go_enter Tryd.func28, Tryd.ntmps28
    go_wp2_with fail
    refine (HBare.out _).mono ?_
    rintro e w1 ⟨ai, ci, rfl, hb1⟩
    have HB1 := Lib.hid (bstep (below_alloc _ _) hb1)
    clear hb1
    go_wp2_with fail
    refine (HZ.out _ _ _).mono ?_
    rintro e w2 ⟨rfl, hb2⟩
    go_wp2_with fail
    go_ret
    exact ⟨ret_bool HF.out.symm, bstep HB1.out hb2⟩
  rw [hzz] at hz
  have HZ := Lib.hid hz
  have HZZ := Lib.hid hzz
  clear hz hzz
  have hk := HK.out
  have x1 : (f.k == 1) = false := by simp [hk]
  have x2 : (f.k == 2) = false := by simp [hk]
  have x3 : (f.k == 3) = true := by simp [hk]
  have x4 : (f.k == 4) = false := by simp [hk]
  have x5 : (f.k == 5) = false := by simp [hk]
  have x6 : (f.k == 6) = false := by simp [hk]
  have x7 : (f.k == 7) = false := by simp [hk]
  have x8 : (f.k == 8) = false := by simp [hk]
  have x9 : (f.k == 9) = false := by simp [hk]
  have x10 : (f.k == 10) = false := by simp [hk]
  have HOK := Lib.hid (show okK f it = (withinB f.i 1 2147483647 && withinB f.g 1 2147483647 && nameB f.nm) by unfold okK; simp [hk])
  clear hk
  go_enter Tryd.func28, Tryd.ntmps28
  go_wp2_with fail
  refine (HBare.out _).mono ?_
  rintro e w1 ⟨ai, ci, rfl, hb1⟩
  have HX1 := Lib.hid (keepB hb1 (heap_alloc_new w _))
  have HB1 := Lib.hid (bstep (below_alloc _ _) hb1)
  clear hb1
  go_wp2_with fail
  refine (HZ.out _ _ _).mono ?_
  rintro e w2 ⟨rfl, hb2⟩
  have HX2 := Lib.hid (keepB hb2 HX1.out)
  have HB2 := Lib.hid (bstep HB1.out hb2)
  clear hb2 HX1 HB1 HBare HZ
  go_wp2_with fail
  go_loopw [3] (fun i wr => ∃ k : Nat, k ≤ it.len ∧ i = .int .i64 k ∧ Hid (formL it = formL (it.drop k)) ∧ Hid (wr.heap[w.heap.size]? = some (.cells #[.int .i64 f.k, .int .i64 f.i, .int .i64 f.g, .string f.nm, .string f.fn, .int .i64 f.ar, .slice ao it.len cap, .string f.bs, .int .i64 f.n] 24 (0, 0))) ∧ Hid (Below w.heap.size w wr)) (fun i _ => it.len - (intOf i).toNat)
  case atStart => exact ⟨0, Nat.zero_le _, rfl, Lib.hid (by rw [TL.drop_zero]), HX2, HB2⟩
  case round =>
    obtain ⟨k, hk, rfl, HE, HX, HB⟩ := hrel
    have b0 : wr.cell? ⟨w.heap.size, 0, none⟩ = some _ := cells_of HX.out 0
    have b1 : wr.cell? ⟨w.heap.size, 1, none⟩ = some _ := cells_of HX.out 1
    have b2 : wr.cell? ⟨w.heap.size, 2, none⟩ = some _ := cells_of HX.out 2
    have b3 : wr.cell? ⟨w.heap.size, 3, none⟩ = some _ := cells_of HX.out 3
    have b4 : wr.cell? ⟨w.heap.size, 4, none⟩ = some _ := cells_of HX.out 4
    have b5 : wr.cell? ⟨w.heap.size, 5, none⟩ = some _ := cells_of HX.out 5
    have b6 : wr.cell? ⟨w.heap.size, 6, none⟩ = some _ := cells_of HX.out 6
    have b7 : wr.cell? ⟨w.heap.size, 7, none⟩ = some _ := cells_of HX.out 7
    have b8 : wr.cell? ⟨w.heap.size, 8, none⟩ = some _ := cells_of HX.out 8
    by_cases hlt : k < it.len
    · have hlt' : (k : Int) < (it.len : Int) := by omega
      obtain ⟨f2, it2, e1⟩ := TL.drop_at it k hlt
      obtain ⟨b, o, rfl, hrd⟩ := HR.out (by intro e; rw [e] at hlt; simp [TL.len] at hlt)
      obtain ⟨hb, ai2, ci2, ⟨c0, c1, c2, c3, c4, c5, c6, c7, c8⟩, hit⟩ := Rd.nine hrd e1 (below_cells HB.out hB)
      have hcnt : it2.cnt < m := by
        have h1 := TL.cnt_drop it k
        rw [e1] at h1
        simp only [TL.cnt] at h1
        omega
      have hcall := HS.out it2.cnt hcnt f2 it2 (.slice ai2 it2.len ci2) wr A B (Nat.le_refl _) (small_at HSM.out.2.2.2 e1) hit (Nat.le_trans hB HB.out.size)
      have hfl := formL_drop e1 HE.out
      unfold FormedR at hcall
      generalize formT f2 it2 = s at hcall hfl
      have HCall := Lib.hid hcall
      have HFL := Lib.hid hfl
      clear hrd hit hcall e1 hfl
      go_wp2_with fail
      refine HCall.out.mono ?_
      rintro e w3 ⟨rfl, hb3⟩
      have HX3 := Lib.hid (keepB hb3 HX.out)
      have HB3 := Lib.hid (bstep HB.out hb3)
      clear hb3 c0 c1 c2 c3 c4 c5 c6 c7 c8 b0 b1 b2 b3 b4 b5 b6 b7 b8
      cases s
      · have HF := Lib.hid (formT_items (f := f) (show formL it = false by rw [HFL.out]; rfl))
        go_wp2_with fail
        go_ret
        exact ⟨ret_bool HF.out.symm, HB3.out⟩
      · go_wp2_with fail
        refine ⟨⟨k + 1, by omega, by go_num, Lib.hid (by rw [HFL.out, Bool.true_and]), HX3, HB3⟩, by simp only [intOf]; omega⟩
    · have hlt' : ¬ (k : Int) < (it.len : Int) := by omega
      have hfin := formT_ok HZZ.out (show formL it = true by rw [HE.out, TL.drop_len it k (by omega)]; rfl)
      rw [HOK.out] at hfin
      have HF := Lib.hid hfin
      clear hfin
      have H0 := Lib.hid (fun W => between_any f.i 1 2147483647 W)
      generalize withinB f.i 1 2147483647 = b0x at H0 HF
      have H1 := Lib.hid (fun W => between_any f.g 1 2147483647 W)
      generalize withinB f.g 1 2147483647 = b1x at H1 HF
      have H2 := Lib.hid (fun W => Name_any f.nm (Nat.le_trans HSM.out.1 (by decide)) W)
      generalize nameB f.nm = b2x at H2 HF
      cases b0x
      case false =>
        go_wp2_with (first | (go_at_call 48; with_reducible refine (H0.out _).mono ?_; rintro e w' ⟨rfl, rfl⟩))
        go_ret
        exact ⟨ret_bool HF.out.symm, HB.out⟩
      cases b1x
      case false =>
        go_wp2_with (first | (go_at_call 48; with_reducible refine (H0.out _).mono ?_; rintro e w' ⟨rfl, rfl⟩) | (go_at_call 48; with_reducible refine (H1.out _).mono ?_; rintro e w' ⟨rfl, rfl⟩))
        go_ret
        exact ⟨ret_bool HF.out.symm, HB.out⟩
      cases b2x
      case false =>
        go_wp2_with (first | (go_at_call 48; with_reducible refine (H0.out _).mono ?_; rintro e w' ⟨rfl, rfl⟩) | (go_at_call 48; with_reducible refine (H1.out _).mono ?_; rintro e w' ⟨rfl, rfl⟩) | (go_at_call 47; with_reducible refine (H2.out _).mono ?_; rintro e w' ⟨rfl, rfl⟩))
        go_ret
        exact ⟨ret_bool HF.out.symm, HB.out⟩
      go_wp2_with (first | (go_at_call 48; with_reducible refine (H0.out _).mono ?_; rintro e w' ⟨rfl, rfl⟩) | (go_at_call 48; with_reducible refine (H1.out _).mono ?_; rintro e w' ⟨rfl, rfl⟩) | (go_at_call 47; with_reducible refine (H2.out _).mono ?_; rintro e w' ⟨rfl, rfl⟩))
      go_ret
      exact ⟨ret_bool HF.out.symm, HB.out⟩
set_option maxHeartbeats 8000000 in
set_option maxRecDepth 100000 in
theorem formed_k4 (m : Nat) (hS : ∀ j, j < m → FormedC j) (f : Fd) (it : TL) (iv : Value) (w : World) (A B : Nat) (hm : it.cnt ≤ m) (hsm : smallT 1000000 f it) (hs : RdS w A B it iv) (hB : B ≤ w.heap.size) (hk : f.k = 4) :
    Calls Tryd.prog 28 #[.agg #[.int .i64 f.k, .int .i64 f.i, .int .i64 f.g, .string f.nm, .string f.fn, .int .i64 f.ar, iv, .string f.bs, .int .i64 f.n]] w (FormedR f it w) := by
  have HIT := Lib.hid hs
  have HK := Lib.hid hk
  clear hk
  obtain ⟨ao, cap, rfl, hcap, hmax, hr⟩ := hs
  unfold maxLen at hmax
  have HR := Lib.hid hr
  have HS := Lib.hid hS
  have HSM := Lib.hid hsm
  have HBare := Lib.hid (bare_any f ao it.len cap)
  clear hr hS hsm
  have hz : ∀ (W : World) ai ci, Calls Tryd.prog 45 #[.agg #[.int .i64 (bareF f).k, .int .i64 (bareF f).i, .int .i64 (bareF f).g, .string (bareF f).nm, .string (bareF f).fn, .int .i64 (bareF f).ar, .slice ai (bareN f it.len) ci, .string (bareF f).bs, .int .i64 (bareF f).n]] W fun e w' => e = .returned (.bool (zeroB (bareF f) (bareN f it.len))) ∧ Below W.heap.size W w' := fun W ai ci => zero_any (bareF f) ai (bareN f it.len) ci W
  by_cases hzz : zeroB (bareF f) (bareN f it.len) = true
  case neg =>
    have hzf : zeroB (bareF f) (bareN f it.len) = false := by simpa using hzz
    have HF := Lib.hid (formT_zero hzf)
    rw [hzf] at hz
    have HZ := Lib.hid hz
    clear hz hzz hzf
    go_enter Tryd.func28, Tryd.ntmps28
    go_wp2_with fail
    refine (HBare.out _).mono ?_
    rintro e w1 ⟨ai, ci, rfl, hb1⟩
    have HB1 := Lib.hid (bstep (below_alloc _ _) hb1)
    clear hb1
    go_wp2_with fail
    refine (HZ.out _ _ _).mono ?_
    rintro e w2 ⟨rfl, hb2⟩
    go_wp2_with fail
    go_ret
    exact ⟨ret_bool HF.out.symm, bstep HB1.out hb2⟩
  rw [hzz] at hz
  have HZ := Lib.hid hz
  have HZZ := Lib.hid hzz
  clear hz hzz
  have hk := HK.out
  have x1 : (f.k == 1) = false := by simp [hk]
  have x2 : (f.k == 2) = false := by simp [hk]
  have x3 : (f.k == 3) = false := by simp [hk]
  have x4 : (f.k == 4) = true := by simp [hk]
  have x5 : (f.k == 5) = false := by simp [hk]
  have x6 : (f.k == 6) = false := by simp [hk]
  have x7 : (f.k == 7) = false := by simp [hk]
  have x8 : (f.k == 8) = false := by simp [hk]
  have x9 : (f.k == 9) = false := by simp [hk]
  have x10 : (f.k == 10) = false := by simp [hk]
  have HOK := Lib.hid (show okK f it = (withinB f.i 0 999 && withinB f.g 1 2147483647 && nameB f.nm && withinB f.ar 0 16 && decide ((it.len : Int) ≤ 200)) by unfold okK; simp [hk])
  clear hk
  go_enter Tryd.func28, Tryd.ntmps28
  go_wp2_with fail
  refine (HBare.out _).mono ?_
  rintro e w1 ⟨ai, ci, rfl, hb1⟩
  have HX1 := Lib.hid (keepB hb1 (heap_alloc_new w _))
  have HB1 := Lib.hid (bstep (below_alloc _ _) hb1)
  clear hb1
  go_wp2_with fail
  refine (HZ.out _ _ _).mono ?_
  rintro e w2 ⟨rfl, hb2⟩
  have HX2 := Lib.hid (keepB hb2 HX1.out)
  have HB2 := Lib.hid (bstep HB1.out hb2)
  clear hb2 HX1 HB1 HBare HZ
  go_wp2_with fail
  go_loopw [3] (fun i wr => ∃ k : Nat, k ≤ it.len ∧ i = .int .i64 k ∧ Hid (formL it = formL (it.drop k)) ∧ Hid (wr.heap[w.heap.size]? = some (.cells #[.int .i64 f.k, .int .i64 f.i, .int .i64 f.g, .string f.nm, .string f.fn, .int .i64 f.ar, .slice ao it.len cap, .string f.bs, .int .i64 f.n] 24 (0, 0))) ∧ Hid (Below w.heap.size w wr)) (fun i _ => it.len - (intOf i).toNat)
  case atStart => exact ⟨0, Nat.zero_le _, rfl, Lib.hid (by rw [TL.drop_zero]), HX2, HB2⟩
  case round =>
    obtain ⟨k, hk, rfl, HE, HX, HB⟩ := hrel
    have b0 : wr.cell? ⟨w.heap.size, 0, none⟩ = some _ := cells_of HX.out 0
    have b1 : wr.cell? ⟨w.heap.size, 1, none⟩ = some _ := cells_of HX.out 1
    have b2 : wr.cell? ⟨w.heap.size, 2, none⟩ = some _ := cells_of HX.out 2
    have b3 : wr.cell? ⟨w.heap.size, 3, none⟩ = some _ := cells_of HX.out 3
    have b4 : wr.cell? ⟨w.heap.size, 4, none⟩ = some _ := cells_of HX.out 4
    have b5 : wr.cell? ⟨w.heap.size, 5, none⟩ = some _ := cells_of HX.out 5
    have b6 : wr.cell? ⟨w.heap.size, 6, none⟩ = some _ := cells_of HX.out 6
    have b7 : wr.cell? ⟨w.heap.size, 7, none⟩ = some _ := cells_of HX.out 7
    have b8 : wr.cell? ⟨w.heap.size, 8, none⟩ = some _ := cells_of HX.out 8
    by_cases hlt : k < it.len
    · have hlt' : (k : Int) < (it.len : Int) := by omega
      obtain ⟨f2, it2, e1⟩ := TL.drop_at it k hlt
      obtain ⟨b, o, rfl, hrd⟩ := HR.out (by intro e; rw [e] at hlt; simp [TL.len] at hlt)
      obtain ⟨hb, ai2, ci2, ⟨c0, c1, c2, c3, c4, c5, c6, c7, c8⟩, hit⟩ := Rd.nine hrd e1 (below_cells HB.out hB)
      have hcnt : it2.cnt < m := by
        have h1 := TL.cnt_drop it k
        rw [e1] at h1
        simp only [TL.cnt] at h1
        omega
      have hcall := HS.out it2.cnt hcnt f2 it2 (.slice ai2 it2.len ci2) wr A B (Nat.le_refl _) (small_at HSM.out.2.2.2 e1) hit (Nat.le_trans hB HB.out.size)
      have hfl := formL_drop e1 HE.out
      unfold FormedR at hcall
      generalize formT f2 it2 = s at hcall hfl
      have HCall := Lib.hid hcall
      have HFL := Lib.hid hfl
      clear hrd hit hcall e1 hfl
      go_wp2_with fail
      refine HCall.out.mono ?_
      rintro e w3 ⟨rfl, hb3⟩
      have HX3 := Lib.hid (keepB hb3 HX.out)
      have HB3 := Lib.hid (bstep HB.out hb3)
      clear hb3 c0 c1 c2 c3 c4 c5 c6 c7 c8 b0 b1 b2 b3 b4 b5 b6 b7 b8
      cases s
      · have HF := Lib.hid (formT_items (f := f) (show formL it = false by rw [HFL.out]; rfl))
        go_wp2_with fail
        go_ret
        exact ⟨ret_bool HF.out.symm, HB3.out⟩
      · go_wp2_with fail
        refine ⟨⟨k + 1, by omega, by go_num, Lib.hid (by rw [HFL.out, Bool.true_and]), HX3, HB3⟩, by simp only [intOf]; omega⟩
    · have hlt' : ¬ (k : Int) < (it.len : Int) := by omega
      have hfin := formT_ok HZZ.out (show formL it = true by rw [HE.out, TL.drop_len it k (by omega)]; rfl)
      rw [HOK.out] at hfin
      have HF := Lib.hid hfin
      clear hfin
      have H0 := Lib.hid (fun W => between_any f.i 0 999 W)
      generalize withinB f.i 0 999 = b0x at H0 HF
      have H1 := Lib.hid (fun W => between_any f.g 1 2147483647 W)
      generalize withinB f.g 1 2147483647 = b1x at H1 HF
      have H2 := Lib.hid (fun W => Name_any f.nm (Nat.le_trans HSM.out.1 (by decide)) W)
      generalize nameB f.nm = b2x at H2 HF
      have H3 := Lib.hid (fun W => between_any f.ar 0 16 W)
      generalize withinB f.ar 0 16 = b3x at H3 HF
      cases b0x
      case false =>
        go_wp2_with (first | (go_at_call 48; with_reducible refine (H0.out _).mono ?_; rintro e w' ⟨rfl, rfl⟩))
        go_ret
        exact ⟨ret_bool HF.out.symm, HB.out⟩
      cases b1x
      case false =>
        go_wp2_with (first | (go_at_call 48; with_reducible refine (H0.out _).mono ?_; rintro e w' ⟨rfl, rfl⟩) | (go_at_call 48; with_reducible refine (H1.out _).mono ?_; rintro e w' ⟨rfl, rfl⟩))
        go_ret
        exact ⟨ret_bool HF.out.symm, HB.out⟩
      cases b2x
      case false =>
        go_wp2_with (first | (go_at_call 48; with_reducible refine (H0.out _).mono ?_; rintro e w' ⟨rfl, rfl⟩) | (go_at_call 48; with_reducible refine (H1.out _).mono ?_; rintro e w' ⟨rfl, rfl⟩) | (go_at_call 47; with_reducible refine (H2.out _).mono ?_; rintro e w' ⟨rfl, rfl⟩))
        go_ret
        exact ⟨ret_bool HF.out.symm, HB.out⟩
      cases b3x
      case false =>
        go_wp2_with (first | (go_at_call 48; with_reducible refine (H0.out _).mono ?_; rintro e w' ⟨rfl, rfl⟩) | (go_at_call 48; with_reducible refine (H1.out _).mono ?_; rintro e w' ⟨rfl, rfl⟩) | (go_at_call 47; with_reducible refine (H2.out _).mono ?_; rintro e w' ⟨rfl, rfl⟩) | (go_at_call 48; with_reducible refine (H3.out _).mono ?_; rintro e w' ⟨rfl, rfl⟩))
        go_ret
        exact ⟨ret_bool HF.out.symm, HB.out⟩
      by_cases h200 : (it.len : Int) ≤ 200
      · rw [decide_eq_true h200] at HF
        go_wp2_with (first | (go_at_call 48; with_reducible refine (H0.out _).mono ?_; rintro e w' ⟨rfl, rfl⟩) | (go_at_call 48; with_reducible refine (H1.out _).mono ?_; rintro e w' ⟨rfl, rfl⟩) | (go_at_call 47; with_reducible refine (H2.out _).mono ?_; rintro e w' ⟨rfl, rfl⟩) | (go_at_call 48; with_reducible refine (H3.out _).mono ?_; rintro e w' ⟨rfl, rfl⟩))
        go_ret
        exact ⟨ret_bool HF.out.symm, HB.out⟩
      · rw [decide_eq_false h200] at HF
        have HN := Lib.hid h200
        go_wp2_with (first | (go_at_call 48; with_reducible refine (H0.out _).mono ?_; rintro e w' ⟨rfl, rfl⟩) | (go_at_call 48; with_reducible refine (H1.out _).mono ?_; rintro e w' ⟨rfl, rfl⟩) | (go_at_call 47; with_reducible refine (H2.out _).mono ?_; rintro e w' ⟨rfl, rfl⟩) | (go_at_call 48; with_reducible refine (H3.out _).mono ?_; rintro e w' ⟨rfl, rfl⟩))
        go_ret
        exact ⟨ret_bool (by rw [HF.out, decide_eq_false (show ¬ (it.len : Int) ≤ 200 by have := HN.out; omega)]; rfl), HB.out⟩
set_option maxHeartbeats 8000000 in
set_option maxRecDepth 100000 in
theorem formed_k5 (m : Nat) (hS : ∀ j, j < m → FormedC j) (f : Fd) (it : TL) (iv : Value) (w : World) (A B : Nat) (hm : it.cnt ≤ m) (hsm : smallT 1000000 f it) (hs : RdS w A B it iv) (hB : B ≤ w.heap.size) (hk : f.k = 5) :
    Calls Tryd.prog 28 #[.agg #[.int .i64 f.k, .int .i64 f.i, .int .i64 f.g, .string f.nm, .string f.fn, .int .i64 f.ar, iv, .string f.bs, .int .i64 f.n]] w (FormedR f it w) := by
  have HIT := Lib.hid hs
  have HK := Lib.hid hk
  clear hk
  obtain ⟨ao, cap, rfl, hcap, hmax, hr⟩ := hs
  unfold maxLen at hmax
  have HR := Lib.hid hr
  have HS := Lib.hid hS
  have HSM := Lib.hid hsm
  have HBare := Lib.hid (bare_any f ao it.len cap)
  clear hr hS hsm
  have hz : ∀ (W : World) ai ci, Calls Tryd.prog 45 #[.agg #[.int .i64 (bareF f).k, .int .i64 (bareF f).i, .int .i64 (bareF f).g, .string (bareF f).nm, .string (bareF f).fn, .int .i64 (bareF f).ar, .slice ai (bareN f it.len) ci, .string (bareF f).bs, .int .i64 (bareF f).n]] W fun e w' => e = .returned (.bool (zeroB (bareF f) (bareN f it.len))) ∧ Below W.heap.size W w' := fun W ai ci => zero_any (bareF f) ai (bareN f it.len) ci W
  by_cases hzz : zeroB (bareF f) (bareN f it.len) = true
  case neg =>
    have hzf : zeroB (bareF f) (bareN f it.len) = false := by simpa using hzz
    have HF := Lib.hid (formT_zero hzf)
    rw [hzf] at hz
    have HZ := Lib.hid hz
    clear hz hzz hzf
    go_enter Tryd.func28, Tryd.ntmps28
    go_wp2_with fail
    refine (HBare.out _).mono ?_
    rintro e w1 ⟨ai, ci, rfl, hb1⟩
    have HB1 := Lib.hid (bstep (below_alloc _ _) hb1)
    clear hb1
    go_wp2_with fail
    refine (HZ.out _ _ _).mono ?_
    rintro e w2 ⟨rfl, hb2⟩
    go_wp2_with fail
    go_ret
    exact ⟨ret_bool HF.out.symm, bstep HB1.out hb2⟩
  rw [hzz] at hz
  have HZ := Lib.hid hz
  have HZZ := Lib.hid hzz
  clear hz hzz
  have hk := HK.out
  have x1 : (f.k == 1) = false := by simp [hk]
  have x2 : (f.k == 2) = false := by simp [hk]
  have x3 : (f.k == 3) = false := by simp [hk]
  have x4 : (f.k == 4) = false := by simp [hk]
  have x5 : (f.k == 5) = true := by simp [hk]
  have x6 : (f.k == 6) = false := by simp [hk]
  have x7 : (f.k == 7) = false := by simp [hk]
  have x8 : (f.k == 8) = false := by simp [hk]
  have x9 : (f.k == 9) = false := by simp [hk]
  have x10 : (f.k == 10) = false := by simp [hk]
  have HOK := Lib.hid (show okK f it = (nameB f.nm && nameB f.fn && withinB f.ar 0 16) by unfold okK; simp [hk])
  clear hk
  go_enter Tryd.func28, Tryd.ntmps28
  go_wp2_with fail
  refine (HBare.out _).mono ?_
  rintro e w1 ⟨ai, ci, rfl, hb1⟩
  have HX1 := Lib.hid (keepB hb1 (heap_alloc_new w _))
  have HB1 := Lib.hid (bstep (below_alloc _ _) hb1)
  clear hb1
  go_wp2_with fail
  refine (HZ.out _ _ _).mono ?_
  rintro e w2 ⟨rfl, hb2⟩
  have HX2 := Lib.hid (keepB hb2 HX1.out)
  have HB2 := Lib.hid (bstep HB1.out hb2)
  clear hb2 HX1 HB1 HBare HZ
  go_wp2_with fail
  go_loopw [3] (fun i wr => ∃ k : Nat, k ≤ it.len ∧ i = .int .i64 k ∧ Hid (formL it = formL (it.drop k)) ∧ Hid (wr.heap[w.heap.size]? = some (.cells #[.int .i64 f.k, .int .i64 f.i, .int .i64 f.g, .string f.nm, .string f.fn, .int .i64 f.ar, .slice ao it.len cap, .string f.bs, .int .i64 f.n] 24 (0, 0))) ∧ Hid (Below w.heap.size w wr)) (fun i _ => it.len - (intOf i).toNat)
  case atStart => exact ⟨0, Nat.zero_le _, rfl, Lib.hid (by rw [TL.drop_zero]), HX2, HB2⟩
  case round =>
    obtain ⟨k, hk, rfl, HE, HX, HB⟩ := hrel
    have b0 : wr.cell? ⟨w.heap.size, 0, none⟩ = some _ := cells_of HX.out 0
    have b1 : wr.cell? ⟨w.heap.size, 1, none⟩ = some _ := cells_of HX.out 1
    have b2 : wr.cell? ⟨w.heap.size, 2, none⟩ = some _ := cells_of HX.out 2
    have b3 : wr.cell? ⟨w.heap.size, 3, none⟩ = some _ := cells_of HX.out 3
    have b4 : wr.cell? ⟨w.heap.size, 4, none⟩ = some _ := cells_of HX.out 4
    have b5 : wr.cell? ⟨w.heap.size, 5, none⟩ = some _ := cells_of HX.out 5
    have b6 : wr.cell? ⟨w.heap.size, 6, none⟩ = some _ := cells_of HX.out 6
    have b7 : wr.cell? ⟨w.heap.size, 7, none⟩ = some _ := cells_of HX.out 7
    have b8 : wr.cell? ⟨w.heap.size, 8, none⟩ = some _ := cells_of HX.out 8
    by_cases hlt : k < it.len
    · have hlt' : (k : Int) < (it.len : Int) := by omega
      obtain ⟨f2, it2, e1⟩ := TL.drop_at it k hlt
      obtain ⟨b, o, rfl, hrd⟩ := HR.out (by intro e; rw [e] at hlt; simp [TL.len] at hlt)
      obtain ⟨hb, ai2, ci2, ⟨c0, c1, c2, c3, c4, c5, c6, c7, c8⟩, hit⟩ := Rd.nine hrd e1 (below_cells HB.out hB)
      have hcnt : it2.cnt < m := by
        have h1 := TL.cnt_drop it k
        rw [e1] at h1
        simp only [TL.cnt] at h1
        omega
      have hcall := HS.out it2.cnt hcnt f2 it2 (.slice ai2 it2.len ci2) wr A B (Nat.le_refl _) (small_at HSM.out.2.2.2 e1) hit (Nat.le_trans hB HB.out.size)
      have hfl := formL_drop e1 HE.out
      unfold FormedR at hcall
      generalize formT f2 it2 = s at hcall hfl
      have HCall := Lib.hid hcall
      have HFL := Lib.hid hfl
      clear hrd hit hcall e1 hfl
      go_wp2_with fail
      refine HCall.out.mono ?_
      rintro e w3 ⟨rfl, hb3⟩
      have HX3 := Lib.hid (keepB hb3 HX.out)
      have HB3 := Lib.hid (bstep HB.out hb3)
      clear hb3 c0 c1 c2 c3 c4 c5 c6 c7 c8 b0 b1 b2 b3 b4 b5 b6 b7 b8
      cases s
      · have HF := Lib.hid (formT_items (f := f) (show formL it = false by rw [HFL.out]; rfl))
        go_wp2_with fail
        go_ret
        exact ⟨ret_bool HF.out.symm, HB3.out⟩
      · go_wp2_with fail
        refine ⟨⟨k + 1, by omega, by go_num, Lib.hid (by rw [HFL.out, Bool.true_and]), HX3, HB3⟩, by simp only [intOf]; omega⟩
    · have hlt' : ¬ (k : Int) < (it.len : Int) := by omega
      have hfin := formT_ok HZZ.out (show formL it = true by rw [HE.out, TL.drop_len it k (by omega)]; rfl)
      rw [HOK.out] at hfin
      have HF := Lib.hid hfin
      clear hfin
      have H0 := Lib.hid (fun W => Name_any f.nm (Nat.le_trans HSM.out.1 (by decide)) W)
      generalize nameB f.nm = b0x at H0 HF
      have H1 := Lib.hid (fun W => Name_any f.fn (Nat.le_trans HSM.out.2.1 (by decide)) W)
      generalize nameB f.fn = b1x at H1 HF
      have H2 := Lib.hid (fun W => between_any f.ar 0 16 W)
      generalize withinB f.ar 0 16 = b2x at H2 HF
      cases b0x
      case false =>
        go_wp2_with (first | (go_at_call 47; with_reducible refine (H0.out _).mono ?_; rintro e w' ⟨rfl, rfl⟩))
        go_ret
        exact ⟨ret_bool HF.out.symm, HB.out⟩
      cases b1x
      case false =>
        go_wp2_with (first | (go_at_call 47; with_reducible refine (H0.out _).mono ?_; rintro e w' ⟨rfl, rfl⟩) | (go_at_call 47; with_reducible refine (H1.out _).mono ?_; rintro e w' ⟨rfl, rfl⟩))
        go_ret
        exact ⟨ret_bool HF.out.symm, HB.out⟩
      cases b2x
      case false =>
        go_wp2_with (first | (go_at_call 47; with_reducible refine (H0.out _).mono ?_; rintro e w' ⟨rfl, rfl⟩) | (go_at_call 47; with_reducible refine (H1.out _).mono ?_; rintro e w' ⟨rfl, rfl⟩) | (go_at_call 48; with_reducible refine (H2.out _).mono ?_; rintro e w' ⟨rfl, rfl⟩))
        go_ret
        exact ⟨ret_bool HF.out.symm, HB.out⟩
      go_wp2_with (first | (go_at_call 47; with_reducible refine (H0.out _).mono ?_; rintro e w' ⟨rfl, rfl⟩) | (go_at_call 47; with_reducible refine (H1.out _).mono ?_; rintro e w' ⟨rfl, rfl⟩) | (go_at_call 48; with_reducible refine (H2.out _).mono ?_; rintro e w' ⟨rfl, rfl⟩))
      go_ret
      exact ⟨ret_bool HF.out.symm, HB.out⟩
set_option maxHeartbeats 8000000 in
set_option maxRecDepth 100000 in
theorem formed_k6 (m : Nat) (hS : ∀ j, j < m → FormedC j) (f : Fd) (it : TL) (iv : Value) (w : World) (A B : Nat) (hm : it.cnt ≤ m) (hsm : smallT 1000000 f it) (hs : RdS w A B it iv) (hB : B ≤ w.heap.size) (hk : f.k = 6) :
    Calls Tryd.prog 28 #[.agg #[.int .i64 f.k, .int .i64 f.i, .int .i64 f.g, .string f.nm, .string f.fn, .int .i64 f.ar, iv, .string f.bs, .int .i64 f.n]] w (FormedR f it w) := by
  have HIT := Lib.hid hs
  have HK := Lib.hid hk
  clear hk
  obtain ⟨ao, cap, rfl, hcap, hmax, hr⟩ := hs
  unfold maxLen at hmax
  have HR := Lib.hid hr
  have HS := Lib.hid hS
  have HSM := Lib.hid hsm
  have HBare := Lib.hid (bare_any f ao it.len cap)
  clear hr hS hsm
  have hz : ∀ (W : World) ai ci, Calls Tryd.prog 45 #[.agg #[.int .i64 (bareF f).k, .int .i64 (bareF f).i, .int .i64 (bareF f).g, .string (bareF f).nm, .string (bareF f).fn, .int .i64 (bareF f).ar, .slice ai (bareN f it.len) ci, .string (bareF f).bs, .int .i64 (bareF f).n]] W fun e w' => e = .returned (.bool (zeroB (bareF f) (bareN f it.len))) ∧ Below W.heap.size W w' := fun W ai ci => zero_any (bareF f) ai (bareN f it.len) ci W
  by_cases hzz : zeroB (bareF f) (bareN f it.len) = true
  case neg =>
    have hzf : zeroB (bareF f) (bareN f it.len) = false := by simpa using hzz
    have HF := Lib.hid (formT_zero hzf)
    rw [hzf] at hz
    have HZ := Lib.hid hz
    clear hz hzz hzf
    go_enter Tryd.func28, Tryd.ntmps28
    go_wp2_with fail
    refine (HBare.out _).mono ?_
    rintro e w1 ⟨ai, ci, rfl, hb1⟩
    have HB1 := Lib.hid (bstep (below_alloc _ _) hb1)
    clear hb1
    go_wp2_with fail
    refine (HZ.out _ _ _).mono ?_
    rintro e w2 ⟨rfl, hb2⟩
    go_wp2_with fail
    go_ret
    exact ⟨ret_bool HF.out.symm, bstep HB1.out hb2⟩
  rw [hzz] at hz
  have HZ := Lib.hid hz
  have HZZ := Lib.hid hzz
  clear hz hzz
  have hk := HK.out
  have x1 : (f.k == 1) = false := by simp [hk]
  have x2 : (f.k == 2) = false := by simp [hk]
  have x3 : (f.k == 3) = false := by simp [hk]
  have x4 : (f.k == 4) = false := by simp [hk]
  have x5 : (f.k == 5) = false := by simp [hk]
  have x6 : (f.k == 6) = true := by simp [hk]
  have x7 : (f.k == 7) = false := by simp [hk]
  have x8 : (f.k == 8) = false := by simp [hk]
  have x9 : (f.k == 9) = false := by simp [hk]
  have x10 : (f.k == 10) = false := by simp [hk]
  have HOK := Lib.hid (show okK f it = (withinB f.i 1 2147483647 && withinB f.g 1 2147483647 && nameB f.nm) by unfold okK; simp [hk])
  clear hk
  go_enter Tryd.func28, Tryd.ntmps28
  go_wp2_with fail
  refine (HBare.out _).mono ?_
  rintro e w1 ⟨ai, ci, rfl, hb1⟩
  have HX1 := Lib.hid (keepB hb1 (heap_alloc_new w _))
  have HB1 := Lib.hid (bstep (below_alloc _ _) hb1)
  clear hb1
  go_wp2_with fail
  refine (HZ.out _ _ _).mono ?_
  rintro e w2 ⟨rfl, hb2⟩
  have HX2 := Lib.hid (keepB hb2 HX1.out)
  have HB2 := Lib.hid (bstep HB1.out hb2)
  clear hb2 HX1 HB1 HBare HZ
  go_wp2_with fail
  go_loopw [3] (fun i wr => ∃ k : Nat, k ≤ it.len ∧ i = .int .i64 k ∧ Hid (formL it = formL (it.drop k)) ∧ Hid (wr.heap[w.heap.size]? = some (.cells #[.int .i64 f.k, .int .i64 f.i, .int .i64 f.g, .string f.nm, .string f.fn, .int .i64 f.ar, .slice ao it.len cap, .string f.bs, .int .i64 f.n] 24 (0, 0))) ∧ Hid (Below w.heap.size w wr)) (fun i _ => it.len - (intOf i).toNat)
  case atStart => exact ⟨0, Nat.zero_le _, rfl, Lib.hid (by rw [TL.drop_zero]), HX2, HB2⟩
  case round =>
    obtain ⟨k, hk, rfl, HE, HX, HB⟩ := hrel
    have b0 : wr.cell? ⟨w.heap.size, 0, none⟩ = some _ := cells_of HX.out 0
    have b1 : wr.cell? ⟨w.heap.size, 1, none⟩ = some _ := cells_of HX.out 1
    have b2 : wr.cell? ⟨w.heap.size, 2, none⟩ = some _ := cells_of HX.out 2
    have b3 : wr.cell? ⟨w.heap.size, 3, none⟩ = some _ := cells_of HX.out 3
    have b4 : wr.cell? ⟨w.heap.size, 4, none⟩ = some _ := cells_of HX.out 4
    have b5 : wr.cell? ⟨w.heap.size, 5, none⟩ = some _ := cells_of HX.out 5
    have b6 : wr.cell? ⟨w.heap.size, 6, none⟩ = some _ := cells_of HX.out 6
    have b7 : wr.cell? ⟨w.heap.size, 7, none⟩ = some _ := cells_of HX.out 7
    have b8 : wr.cell? ⟨w.heap.size, 8, none⟩ = some _ := cells_of HX.out 8
    by_cases hlt : k < it.len
    · have hlt' : (k : Int) < (it.len : Int) := by omega
      obtain ⟨f2, it2, e1⟩ := TL.drop_at it k hlt
      obtain ⟨b, o, rfl, hrd⟩ := HR.out (by intro e; rw [e] at hlt; simp [TL.len] at hlt)
      obtain ⟨hb, ai2, ci2, ⟨c0, c1, c2, c3, c4, c5, c6, c7, c8⟩, hit⟩ := Rd.nine hrd e1 (below_cells HB.out hB)
      have hcnt : it2.cnt < m := by
        have h1 := TL.cnt_drop it k
        rw [e1] at h1
        simp only [TL.cnt] at h1
        omega
      have hcall := HS.out it2.cnt hcnt f2 it2 (.slice ai2 it2.len ci2) wr A B (Nat.le_refl _) (small_at HSM.out.2.2.2 e1) hit (Nat.le_trans hB HB.out.size)
      have hfl := formL_drop e1 HE.out
      unfold FormedR at hcall
      generalize formT f2 it2 = s at hcall hfl
      have HCall := Lib.hid hcall
      have HFL := Lib.hid hfl
      clear hrd hit hcall e1 hfl
      go_wp2_with fail
      refine HCall.out.mono ?_
      rintro e w3 ⟨rfl, hb3⟩
      have HX3 := Lib.hid (keepB hb3 HX.out)
      have HB3 := Lib.hid (bstep HB.out hb3)
      clear hb3 c0 c1 c2 c3 c4 c5 c6 c7 c8 b0 b1 b2 b3 b4 b5 b6 b7 b8
      cases s
      · have HF := Lib.hid (formT_items (f := f) (show formL it = false by rw [HFL.out]; rfl))
        go_wp2_with fail
        go_ret
        exact ⟨ret_bool HF.out.symm, HB3.out⟩
      · go_wp2_with fail
        refine ⟨⟨k + 1, by omega, by go_num, Lib.hid (by rw [HFL.out, Bool.true_and]), HX3, HB3⟩, by simp only [intOf]; omega⟩
    · have hlt' : ¬ (k : Int) < (it.len : Int) := by omega
      have hfin := formT_ok HZZ.out (show formL it = true by rw [HE.out, TL.drop_len it k (by omega)]; rfl)
      rw [HOK.out] at hfin
      have HF := Lib.hid hfin
      clear hfin
      have H0 := Lib.hid (fun W => between_any f.i 1 2147483647 W)
      generalize withinB f.i 1 2147483647 = b0x at H0 HF
      have H1 := Lib.hid (fun W => between_any f.g 1 2147483647 W)
      generalize withinB f.g 1 2147483647 = b1x at H1 HF
      have H2 := Lib.hid (fun W => Name_any f.nm (Nat.le_trans HSM.out.1 (by decide)) W)
      generalize nameB f.nm = b2x at H2 HF
      cases b0x
      case false =>
        go_wp2_with (first | (go_at_call 48; with_reducible refine (H0.out _).mono ?_; rintro e w' ⟨rfl, rfl⟩))
        go_ret
        exact ⟨ret_bool HF.out.symm, HB.out⟩
      cases b1x
      case false =>
        go_wp2_with (first | (go_at_call 48; with_reducible refine (H0.out _).mono ?_; rintro e w' ⟨rfl, rfl⟩) | (go_at_call 48; with_reducible refine (H1.out _).mono ?_; rintro e w' ⟨rfl, rfl⟩))
        go_ret
        exact ⟨ret_bool HF.out.symm, HB.out⟩
      cases b2x
      case false =>
        go_wp2_with (first | (go_at_call 48; with_reducible refine (H0.out _).mono ?_; rintro e w' ⟨rfl, rfl⟩) | (go_at_call 48; with_reducible refine (H1.out _).mono ?_; rintro e w' ⟨rfl, rfl⟩) | (go_at_call 47; with_reducible refine (H2.out _).mono ?_; rintro e w' ⟨rfl, rfl⟩))
        go_ret
        exact ⟨ret_bool HF.out.symm, HB.out⟩
      go_wp2_with (first | (go_at_call 48; with_reducible refine (H0.out _).mono ?_; rintro e w' ⟨rfl, rfl⟩) | (go_at_call 48; with_reducible refine (H1.out _).mono ?_; rintro e w' ⟨rfl, rfl⟩) | (go_at_call 47; with_reducible refine (H2.out _).mono ?_; rintro e w' ⟨rfl, rfl⟩))
      go_ret
      exact ⟨ret_bool HF.out.symm, HB.out⟩
set_option maxHeartbeats 8000000 in
set_option maxRecDepth 100000 in
theorem formed_k7 (m : Nat) (hS : ∀ j, j < m → FormedC j) (f : Fd) (it : TL) (iv : Value) (w : World) (A B : Nat) (hm : it.cnt ≤ m) (hsm : smallT 1000000 f it) (hs : RdS w A B it iv) (hB : B ≤ w.heap.size) (hk : f.k = 7) :
    Calls Tryd.prog 28 #[.agg #[.int .i64 f.k, .int .i64 f.i, .int .i64 f.g, .string f.nm, .string f.fn, .int .i64 f.ar, iv, .string f.bs, .int .i64 f.n]] w (FormedR f it w) := by
  have HIT := Lib.hid hs
  have HK := Lib.hid hk
  clear hk
  obtain ⟨ao, cap, rfl, hcap, hmax, hr⟩ := hs
  unfold maxLen at hmax
  have HR := Lib.hid hr
  have HS := Lib.hid hS
  have HSM := Lib.hid hsm
  have HBare := Lib.hid (bare_any f ao it.len cap)
  clear hr hS hsm
  have hz : ∀ (W : World) ai ci, Calls Tryd.prog 45 #[.agg #[.int .i64 (bareF f).k, .int .i64 (bareF f).i, .int .i64 (bareF f).g, .string (bareF f).nm, .string (bareF f).fn, .int .i64 (bareF f).ar, .slice ai (bareN f it.len) ci, .string (bareF f).bs, .int .i64 (bareF f).n]] W fun e w' => e = .returned (.bool (zeroB (bareF f) (bareN f it.len))) ∧ Below W.heap.size W w' := fun W ai ci => zero_any (bareF f) ai (bareN f it.len) ci W
  by_cases hzz : zeroB (bareF f) (bareN f it.len) = true
  case neg =>
    have hzf : zeroB (bareF f) (bareN f it.len) = false := by simpa using hzz
    have HF := Lib.hid (formT_zero hzf)
    rw [hzf] at hz
    have HZ := Lib.hid hz
    clear hz hzz hzf
    go_enter Tryd.func28, Tryd.ntmps28
    go_wp2_with fail
    refine (HBare.out _).mono ?_
    rintro e w1 ⟨ai, ci, rfl, hb1⟩
    have HB1 := Lib.hid (bstep (below_alloc _ _) hb1)
    clear hb1
    go_wp2_with fail
    refine (HZ.out _ _ _).mono ?_
    rintro e w2 ⟨rfl, hb2⟩
    go_wp2_with fail
    go_ret
    exact ⟨ret_bool HF.out.symm, bstep HB1.out hb2⟩
  rw [hzz] at hz
  have HZ := Lib.hid hz
  have HZZ := Lib.hid hzz
  clear hz hzz
  have hk := HK.out
  have x1 : (f.k == 1) = false := by simp [hk]
  have x2 : (f.k == 2) = false := by simp [hk]
  have x3 : (f.k == 3) = false := by simp [hk]
  have x4 : (f.k == 4) = false := by simp [hk]
  have x5 : (f.k == 5) = false := by simp [hk]
  have x6 : (f.k == 6) = false := by simp [hk]
  have x7 : (f.k == 7) = true := by simp [hk]
  have x8 : (f.k == 8) = false := by simp [hk]
  have x9 : (f.k == 9) = false := by simp [hk]
  have x10 : (f.k == 10) = false := by simp [hk]
  have HOK := Lib.hid (show okK f it = decide (it.len ≤ 255) by unfold okK; simp [hk])
  clear hk
  go_enter Tryd.func28, Tryd.ntmps28
  go_wp2_with fail
  refine (HBare.out _).mono ?_
  rintro e w1 ⟨ai, ci, rfl, hb1⟩
  have HX1 := Lib.hid (keepB hb1 (heap_alloc_new w _))
  have HB1 := Lib.hid (bstep (below_alloc _ _) hb1)
  clear hb1
  go_wp2_with fail
  refine (HZ.out _ _ _).mono ?_
  rintro e w2 ⟨rfl, hb2⟩
  have HX2 := Lib.hid (keepB hb2 HX1.out)
  have HB2 := Lib.hid (bstep HB1.out hb2)
  clear hb2 HX1 HB1 HBare HZ
  go_wp2_with fail
  go_loopw [3] (fun i wr => ∃ k : Nat, k ≤ it.len ∧ i = .int .i64 k ∧ Hid (formL it = formL (it.drop k)) ∧ Hid (wr.heap[w.heap.size]? = some (.cells #[.int .i64 f.k, .int .i64 f.i, .int .i64 f.g, .string f.nm, .string f.fn, .int .i64 f.ar, .slice ao it.len cap, .string f.bs, .int .i64 f.n] 24 (0, 0))) ∧ Hid (Below w.heap.size w wr)) (fun i _ => it.len - (intOf i).toNat)
  case atStart => exact ⟨0, Nat.zero_le _, rfl, Lib.hid (by rw [TL.drop_zero]), HX2, HB2⟩
  case round =>
    obtain ⟨k, hk, rfl, HE, HX, HB⟩ := hrel
    have b0 : wr.cell? ⟨w.heap.size, 0, none⟩ = some _ := cells_of HX.out 0
    have b1 : wr.cell? ⟨w.heap.size, 1, none⟩ = some _ := cells_of HX.out 1
    have b2 : wr.cell? ⟨w.heap.size, 2, none⟩ = some _ := cells_of HX.out 2
    have b3 : wr.cell? ⟨w.heap.size, 3, none⟩ = some _ := cells_of HX.out 3
    have b4 : wr.cell? ⟨w.heap.size, 4, none⟩ = some _ := cells_of HX.out 4
    have b5 : wr.cell? ⟨w.heap.size, 5, none⟩ = some _ := cells_of HX.out 5
    have b6 : wr.cell? ⟨w.heap.size, 6, none⟩ = some _ := cells_of HX.out 6
    have b7 : wr.cell? ⟨w.heap.size, 7, none⟩ = some _ := cells_of HX.out 7
    have b8 : wr.cell? ⟨w.heap.size, 8, none⟩ = some _ := cells_of HX.out 8
    by_cases hlt : k < it.len
    · have hlt' : (k : Int) < (it.len : Int) := by omega
      obtain ⟨f2, it2, e1⟩ := TL.drop_at it k hlt
      obtain ⟨b, o, rfl, hrd⟩ := HR.out (by intro e; rw [e] at hlt; simp [TL.len] at hlt)
      obtain ⟨hb, ai2, ci2, ⟨c0, c1, c2, c3, c4, c5, c6, c7, c8⟩, hit⟩ := Rd.nine hrd e1 (below_cells HB.out hB)
      have hcnt : it2.cnt < m := by
        have h1 := TL.cnt_drop it k
        rw [e1] at h1
        simp only [TL.cnt] at h1
        omega
      have hcall := HS.out it2.cnt hcnt f2 it2 (.slice ai2 it2.len ci2) wr A B (Nat.le_refl _) (small_at HSM.out.2.2.2 e1) hit (Nat.le_trans hB HB.out.size)
      have hfl := formL_drop e1 HE.out
      unfold FormedR at hcall
      generalize formT f2 it2 = s at hcall hfl
      have HCall := Lib.hid hcall
      have HFL := Lib.hid hfl
      clear hrd hit hcall e1 hfl
      go_wp2_with fail
      refine HCall.out.mono ?_
      rintro e w3 ⟨rfl, hb3⟩
      have HX3 := Lib.hid (keepB hb3 HX.out)
      have HB3 := Lib.hid (bstep HB.out hb3)
      clear hb3 c0 c1 c2 c3 c4 c5 c6 c7 c8 b0 b1 b2 b3 b4 b5 b6 b7 b8
      cases s
      · have HF := Lib.hid (formT_items (f := f) (show formL it = false by rw [HFL.out]; rfl))
        go_wp2_with fail
        go_ret
        exact ⟨ret_bool HF.out.symm, HB3.out⟩
      · go_wp2_with fail
        refine ⟨⟨k + 1, by omega, by go_num, Lib.hid (by rw [HFL.out, Bool.true_and]), HX3, HB3⟩, by simp only [intOf]; omega⟩
    · have hlt' : ¬ (k : Int) < (it.len : Int) := by omega
      have hfin := formT_ok HZZ.out (show formL it = true by rw [HE.out, TL.drop_len it k (by omega)]; rfl)
      rw [HOK.out] at hfin
      have HF := Lib.hid hfin
      clear hfin
      by_cases h255 : it.len ≤ 255
      · have h255' : (it.len : Int) ≤ 255 := by omega
        rw [decide_eq_true h255] at HF
        go_wp2_with fail
        go_ret
        exact ⟨ret_bool HF.out.symm, HB.out⟩
      · have h255' : ¬ (it.len : Int) ≤ 255 := by omega
        rw [decide_eq_false h255] at HF
        go_wp2_with fail
        go_ret
        exact ⟨ret_bool HF.out.symm, HB.out⟩
set_option maxHeartbeats 8000000 in
set_option maxRecDepth 100000 in
theorem formed_k8 (m : Nat) (hS : ∀ j, j < m → FormedC j) (f : Fd) (it : TL) (iv : Value) (w : World) (A B : Nat) (hm : it.cnt ≤ m) (hsm : smallT 1000000 f it) (hs : RdS w A B it iv) (hB : B ≤ w.heap.size) (hk : f.k = 8) :
    Calls Tryd.prog 28 #[.agg #[.int .i64 f.k, .int .i64 f.i, .int .i64 f.g, .string f.nm, .string f.fn, .int .i64 f.ar, iv, .string f.bs, .int .i64 f.n]] w (FormedR f it w) := by
  have HIT := Lib.hid hs
  have HK := Lib.hid hk
  clear hk
  obtain ⟨ao, cap, rfl, hcap, hmax, hr⟩ := hs
  unfold maxLen at hmax
  have HR := Lib.hid hr
  have HS := Lib.hid hS
  have HSM := Lib.hid hsm
  have HBare := Lib.hid (bare_any f ao it.len cap)
  clear hr hS hsm
  have hz : ∀ (W : World) ai ci, Calls Tryd.prog 45 #[.agg #[.int .i64 (bareF f).k, .int .i64 (bareF f).i, .int .i64 (bareF f).g, .string (bareF f).nm, .string (bareF f).fn, .int .i64 (bareF f).ar, .slice ai (bareN f it.len) ci, .string (bareF f).bs, .int .i64 (bareF f).n]] W fun e w' => e = .returned (.bool (zeroB (bareF f) (bareN f it.len))) ∧ Below W.heap.size W w' := fun W ai ci => zero_any (bareF f) ai (bareN f it.len) ci W
  by_cases hzz : zeroB (bareF f) (bareN f it.len) = true
  case neg =>
    have hzf : zeroB (bareF f) (bareN f it.len) = false := by simpa using hzz
    have HF := Lib.hid (formT_zero hzf)
    rw [hzf] at hz
    have HZ := Lib.hid hz
    clear hz hzz hzf
    go_enter Tryd.func28, Tryd.ntmps28
    go_wp2_with fail
    refine (HBare.out _).mono ?_
    rintro e w1 ⟨ai, ci, rfl, hb1⟩
    have HB1 := Lib.hid (bstep (below_alloc _ _) hb1)
    clear hb1
    go_wp2_with fail
    refine (HZ.out _ _ _).mono ?_
    rintro e w2 ⟨rfl, hb2⟩
    go_wp2_with fail
    go_ret
    exact ⟨ret_bool HF.out.symm, bstep HB1.out hb2⟩
  rw [hzz] at hz
  have HZ := Lib.hid hz
  have HZZ := Lib.hid hzz
  clear hz hzz
  have hk := HK.out
  have x1 : (f.k == 1) = false := by simp [hk]
  have x2 : (f.k == 2) = false := by simp [hk]
  have x3 : (f.k == 3) = false := by simp [hk]
  have x4 : (f.k == 4) = false := by simp [hk]
  have x5 : (f.k == 5) = false := by simp [hk]
  have x6 : (f.k == 6) = false := by simp [hk]
  have x7 : (f.k == 7) = false := by simp [hk]
  have x8 : (f.k == 8) = true := by simp [hk]
  have x9 : (f.k == 9) = false := by simp [hk]
  have x10 : (f.k == 10) = false := by simp [hk]
  have HOK := Lib.hid (show okK f it = true by unfold okK; simp [hk])
  clear hk
  go_enter Tryd.func28, Tryd.ntmps28
  go_wp2_with fail
  refine (HBare.out _).mono ?_
  rintro e w1 ⟨ai, ci, rfl, hb1⟩
  have HX1 := Lib.hid (keepB hb1 (heap_alloc_new w _))
  have HB1 := Lib.hid (bstep (below_alloc _ _) hb1)
  clear hb1
  go_wp2_with fail
  refine (HZ.out _ _ _).mono ?_
  rintro e w2 ⟨rfl, hb2⟩
  have HX2 := Lib.hid (keepB hb2 HX1.out)
  have HB2 := Lib.hid (bstep HB1.out hb2)
  clear hb2 HX1 HB1 HBare HZ
  go_wp2_with fail
  go_loopw [3] (fun i wr => ∃ k : Nat, k ≤ it.len ∧ i = .int .i64 k ∧ Hid (formL it = formL (it.drop k)) ∧ Hid (wr.heap[w.heap.size]? = some (.cells #[.int .i64 f.k, .int .i64 f.i, .int .i64 f.g, .string f.nm, .string f.fn, .int .i64 f.ar, .slice ao it.len cap, .string f.bs, .int .i64 f.n] 24 (0, 0))) ∧ Hid (Below w.heap.size w wr)) (fun i _ => it.len - (intOf i).toNat)
  case atStart => exact ⟨0, Nat.zero_le _, rfl, Lib.hid (by rw [TL.drop_zero]), HX2, HB2⟩
  case round =>
    obtain ⟨k, hk, rfl, HE, HX, HB⟩ := hrel
    have b0 : wr.cell? ⟨w.heap.size, 0, none⟩ = some _ := cells_of HX.out 0
    have b1 : wr.cell? ⟨w.heap.size, 1, none⟩ = some _ := cells_of HX.out 1
    have b2 : wr.cell? ⟨w.heap.size, 2, none⟩ = some _ := cells_of HX.out 2
    have b3 : wr.cell? ⟨w.heap.size, 3, none⟩ = some _ := cells_of HX.out 3
    have b4 : wr.cell? ⟨w.heap.size, 4, none⟩ = some _ := cells_of HX.out 4
    have b5 : wr.cell? ⟨w.heap.size, 5, none⟩ = some _ := cells_of HX.out 5
    have b6 : wr.cell? ⟨w.heap.size, 6, none⟩ = some _ := cells_of HX.out 6
    have b7 : wr.cell? ⟨w.heap.size, 7, none⟩ = some _ := cells_of HX.out 7
    have b8 : wr.cell? ⟨w.heap.size, 8, none⟩ = some _ := cells_of HX.out 8
    by_cases hlt : k < it.len
    · have hlt' : (k : Int) < (it.len : Int) := by omega
      obtain ⟨f2, it2, e1⟩ := TL.drop_at it k hlt
      obtain ⟨b, o, rfl, hrd⟩ := HR.out (by intro e; rw [e] at hlt; simp [TL.len] at hlt)
      obtain ⟨hb, ai2, ci2, ⟨c0, c1, c2, c3, c4, c5, c6, c7, c8⟩, hit⟩ := Rd.nine hrd e1 (below_cells HB.out hB)
      have hcnt : it2.cnt < m := by
        have h1 := TL.cnt_drop it k
        rw [e1] at h1
        simp only [TL.cnt] at h1
        omega
      have hcall := HS.out it2.cnt hcnt f2 it2 (.slice ai2 it2.len ci2) wr A B (Nat.le_refl _) (small_at HSM.out.2.2.2 e1) hit (Nat.le_trans hB HB.out.size)
      have hfl := formL_drop e1 HE.out
      unfold FormedR at hcall
      generalize formT f2 it2 = s at hcall hfl
      have HCall := Lib.hid hcall
      have HFL := Lib.hid hfl
      clear hrd hit hcall e1 hfl
      go_wp2_with fail
      refine HCall.out.mono ?_
      rintro e w3 ⟨rfl, hb3⟩
      have HX3 := Lib.hid (keepB hb3 HX.out)
      have HB3 := Lib.hid (bstep HB.out hb3)
      clear hb3 c0 c1 c2 c3 c4 c5 c6 c7 c8 b0 b1 b2 b3 b4 b5 b6 b7 b8
      cases s
      · have HF := Lib.hid (formT_items (f := f) (show formL it = false by rw [HFL.out]; rfl))
        go_wp2_with fail
        go_ret
        exact ⟨ret_bool HF.out.symm, HB3.out⟩
      · go_wp2_with fail
        refine ⟨⟨k + 1, by omega, by go_num, Lib.hid (by rw [HFL.out, Bool.true_and]), HX3, HB3⟩, by simp only [intOf]; omega⟩
    · have hlt' : ¬ (k : Int) < (it.len : Int) := by omega
      have hfin := formT_ok HZZ.out (show formL it = true by rw [HE.out, TL.drop_len it k (by omega)]; rfl)
      rw [HOK.out] at hfin
      have HF := Lib.hid hfin
      clear hfin
      go_wp2_with fail
      go_ret
      exact ⟨ret_bool HF.out.symm, HB.out⟩
set_option maxHeartbeats 8000000 in
set_option maxRecDepth 100000 in
theorem formed_k9 (m : Nat) (hS : ∀ j, j < m → FormedC j) (f : Fd) (it : TL) (iv : Value) (w : World) (A B : Nat) (hm : it.cnt ≤ m) (hsm : smallT 1000000 f it) (hs : RdS w A B it iv) (hB : B ≤ w.heap.size) (hk : f.k = 9) :
    Calls Tryd.prog 28 #[.agg #[.int .i64 f.k, .int .i64 f.i, .int .i64 f.g, .string f.nm, .string f.fn, .int .i64 f.ar, iv, .string f.bs, .int .i64 f.n]] w (FormedR f it w) := by
  have HIT := Lib.hid hs
  have HK := Lib.hid hk
  clear hk
  obtain ⟨ao, cap, rfl, hcap, hmax, hr⟩ := hs
  unfold maxLen at hmax
  have HR := Lib.hid hr
  have HS := Lib.hid hS
  have HSM := Lib.hid hsm
  have HBare := Lib.hid (bare_any f ao it.len cap)
  clear hr hS hsm
  have hz : ∀ (W : World) ai ci, Calls Tryd.prog 45 #[.agg #[.int .i64 (bareF f).k, .int .i64 (bareF f).i, .int .i64 (bareF f).g, .string (bareF f).nm, .string (bareF f).fn, .int .i64 (bareF f).ar, .slice ai (bareN f it.len) ci, .string (bareF f).bs, .int .i64 (bareF f).n]] W fun e w' => e = .returned (.bool (zeroB (bareF f) (bareN f it.len))) ∧ Below W.heap.size W w' := fun W ai ci => zero_any (bareF f) ai (bareN f it.len) ci W
  by_cases hzz : zeroB (bareF f) (bareN f it.len) = true
  case neg =>
    have hzf : zeroB (bareF f) (bareN f it.len) = false := by simpa using hzz
    have HF := Lib.hid (formT_zero hzf)
    rw [hzf] at hz
    have HZ := Lib.hid hz
    clear hz hzz hzf
    go_enter Tryd.func28, Tryd.ntmps28
    go_wp2_with fail
    refine (HBare.out _).mono ?_
    rintro e w1 ⟨ai, ci, rfl, hb1⟩
    have HB1 := Lib.hid (bstep (below_alloc _ _) hb1)
    clear hb1
    go_wp2_with fail
    refine (HZ.out _ _ _).mono ?_
    rintro e w2 ⟨rfl, hb2⟩
    go_wp2_with fail
    go_ret
    exact ⟨ret_bool HF.out.symm, bstep HB1.out hb2⟩
  rw [hzz] at hz
  have HZ := Lib.hid hz
  have HZZ := Lib.hid hzz
  clear hz hzz
  have hk := HK.out
  have x1 : (f.k == 1) = false := by simp [hk]
  have x2 : (f.k == 2) = false := by simp [hk]
  have x3 : (f.k == 3) = false := by simp [hk]
  have x4 : (f.k == 4) = false := by simp [hk]
  have x5 : (f.k == 5) = false := by simp [hk]
  have x6 : (f.k == 6) = false := by simp [hk]
  have x7 : (f.k == 7) = false := by simp [hk]
  have x8 : (f.k == 8) = false := by simp [hk]
  have x9 : (f.k == 9) = true := by simp [hk]
  have x10 : (f.k == 10) = false := by simp [hk]
  have HOK := Lib.hid (show okK f it = (decide (2 ≤ it.len) && it.lastK != 9) by unfold okK; simp [hk])
  clear hk
  go_enter Tryd.func28, Tryd.ntmps28
  go_wp2_with fail
  refine (HBare.out _).mono ?_
  rintro e w1 ⟨ai, ci, rfl, hb1⟩
  have HX1 := Lib.hid (keepB hb1 (heap_alloc_new w _))
  have HB1 := Lib.hid (bstep (below_alloc _ _) hb1)
  clear hb1
  go_wp2_with fail
  refine (HZ.out _ _ _).mono ?_
  rintro e w2 ⟨rfl, hb2⟩
  have HX2 := Lib.hid (keepB hb2 HX1.out)
  have HB2 := Lib.hid (bstep HB1.out hb2)
  clear hb2 HX1 HB1 HBare HZ
  go_wp2_with fail
  go_loopw [3] (fun i wr => ∃ k : Nat, k ≤ it.len ∧ i = .int .i64 k ∧ Hid (formL it = formL (it.drop k)) ∧ Hid (wr.heap[w.heap.size]? = some (.cells #[.int .i64 f.k, .int .i64 f.i, .int .i64 f.g, .string f.nm, .string f.fn, .int .i64 f.ar, .slice ao it.len cap, .string f.bs, .int .i64 f.n] 24 (0, 0))) ∧ Hid (Below w.heap.size w wr)) (fun i _ => it.len - (intOf i).toNat)
  case atStart => exact ⟨0, Nat.zero_le _, rfl, Lib.hid (by rw [TL.drop_zero]), HX2, HB2⟩
  case round =>
    obtain ⟨k, hk, rfl, HE, HX, HB⟩ := hrel
    have b0 : wr.cell? ⟨w.heap.size, 0, none⟩ = some _ := cells_of HX.out 0
    have b1 : wr.cell? ⟨w.heap.size, 1, none⟩ = some _ := cells_of HX.out 1
    have b2 : wr.cell? ⟨w.heap.size, 2, none⟩ = some _ := cells_of HX.out 2
    have b3 : wr.cell? ⟨w.heap.size, 3, none⟩ = some _ := cells_of HX.out 3
    have b4 : wr.cell? ⟨w.heap.size, 4, none⟩ = some _ := cells_of HX.out 4
    have b5 : wr.cell? ⟨w.heap.size, 5, none⟩ = some _ := cells_of HX.out 5
    have b6 : wr.cell? ⟨w.heap.size, 6, none⟩ = some _ := cells_of HX.out 6
    have b7 : wr.cell? ⟨w.heap.size, 7, none⟩ = some _ := cells_of HX.out 7
    have b8 : wr.cell? ⟨w.heap.size, 8, none⟩ = some _ := cells_of HX.out 8
    by_cases hlt : k < it.len
    · have hlt' : (k : Int) < (it.len : Int) := by omega
      obtain ⟨f2, it2, e1⟩ := TL.drop_at it k hlt
      obtain ⟨b, o, rfl, hrd⟩ := HR.out (by intro e; rw [e] at hlt; simp [TL.len] at hlt)
      obtain ⟨hb, ai2, ci2, ⟨c0, c1, c2, c3, c4, c5, c6, c7, c8⟩, hit⟩ := Rd.nine hrd e1 (below_cells HB.out hB)
      have hcnt : it2.cnt < m := by
        have h1 := TL.cnt_drop it k
        rw [e1] at h1
        simp only [TL.cnt] at h1
        omega
      have hcall := HS.out it2.cnt hcnt f2 it2 (.slice ai2 it2.len ci2) wr A B (Nat.le_refl _) (small_at HSM.out.2.2.2 e1) hit (Nat.le_trans hB HB.out.size)
      have hfl := formL_drop e1 HE.out
      unfold FormedR at hcall
      generalize formT f2 it2 = s at hcall hfl
      have HCall := Lib.hid hcall
      have HFL := Lib.hid hfl
      clear hrd hit hcall e1 hfl
      go_wp2_with fail
      refine HCall.out.mono ?_
      rintro e w3 ⟨rfl, hb3⟩
      have HX3 := Lib.hid (keepB hb3 HX.out)
      have HB3 := Lib.hid (bstep HB.out hb3)
      clear hb3 c0 c1 c2 c3 c4 c5 c6 c7 c8 b0 b1 b2 b3 b4 b5 b6 b7 b8
      cases s
      · have HF := Lib.hid (formT_items (f := f) (show formL it = false by rw [HFL.out]; rfl))
        go_wp2_with fail
        go_ret
        exact ⟨ret_bool HF.out.symm, HB3.out⟩
      · go_wp2_with fail
        refine ⟨⟨k + 1, by omega, by go_num, Lib.hid (by rw [HFL.out, Bool.true_and]), HX3, HB3⟩, by simp only [intOf]; omega⟩
    · have hlt' : ¬ (k : Int) < (it.len : Int) := by omega
      have hfin := formT_ok HZZ.out (show formL it = true by rw [HE.out, TL.drop_len it k (by omega)]; rfl)
      rw [HOK.out] at hfin
      have HF := Lib.hid hfin
      clear hfin
      by_cases h2 : 2 ≤ it.len
      · rw [decide_eq_true h2, Bool.true_and] at HF
        obtain ⟨lf, li, e1⟩ := TL.drop_at it (it.len - 1) (by omega)
        rw [TL.drop_len it (it.len - 1 + 1) (by omega)] at e1
        obtain ⟨b, o, rfl, hrd⟩ := HR.out (by intro e; rw [e] at h2; simp [TL.len] at h2)
        obtain ⟨hb, ai2, ci2, ⟨c0, -, -, -, -, -, -, -, -⟩, -⟩ := Rd.nine hrd e1 (below_cells HB.out hB)
        rw [TL.lastK_at it _ lf li e1] at HF
        have h2' : (2 : Int) ≤ (it.len : Int) := by omega
        clear hrd e1
        go_wp2_with fail
        go_ret
        exact ⟨ret_bool HF.out.symm, HB.out⟩
      · have h2' : ¬ (2 : Int) ≤ (it.len : Int) := by omega
        rw [decide_eq_false h2, Bool.false_and] at HF
        go_wp2_with fail
        go_ret
        exact ⟨ret_bool HF.out.symm, HB.out⟩
set_option maxHeartbeats 8000000 in
set_option maxRecDepth 100000 in
theorem formed_k10 (m : Nat) (hS : ∀ j, j < m → FormedC j) (f : Fd) (it : TL) (iv : Value) (w : World) (A B : Nat) (hm : it.cnt ≤ m) (hsm : smallT 1000000 f it) (hs : RdS w A B it iv) (hB : B ≤ w.heap.size) (hk : f.k = 10) :
    Calls Tryd.prog 28 #[.agg #[.int .i64 f.k, .int .i64 f.i, .int .i64 f.g, .string f.nm, .string f.fn, .int .i64 f.ar, iv, .string f.bs, .int .i64 f.n]] w (FormedR f it w) := by
  have HIT := Lib.hid hs
  have HK := Lib.hid hk
  clear hk
  obtain ⟨ao, cap, rfl, hcap, hmax, hr⟩ := hs
  unfold maxLen at hmax
  have HR := Lib.hid hr
  have HS := Lib.hid hS
  have HSM := Lib.hid hsm
  have HBare := Lib.hid (bare_any f ao it.len cap)
  clear hr hS hsm
  have hz : ∀ (W : World) ai ci, Calls Tryd.prog 45 #[.agg #[.int .i64 (bareF f).k, .int .i64 (bareF f).i, .int .i64 (bareF f).g, .string (bareF f).nm, .string (bareF f).fn, .int .i64 (bareF f).ar, .slice ai (bareN f it.len) ci, .string (bareF f).bs, .int .i64 (bareF f).n]] W fun e w' => e = .returned (.bool (zeroB (bareF f) (bareN f it.len))) ∧ Below W.heap.size W w' := fun W ai ci => zero_any (bareF f) ai (bareN f it.len) ci W
  by_cases hzz : zeroB (bareF f) (bareN f it.len) = true
  case neg =>
    have hzf : zeroB (bareF f) (bareN f it.len) = false := by simpa using hzz
    have HF := Lib.hid (formT_zero hzf)
    rw [hzf] at hz
    have HZ := Lib.hid hz
    clear hz hzz hzf
    go_enter Tryd.func28, Tryd.ntmps28
    go_wp2_with fail
    refine (HBare.out _).mono ?_
    rintro e w1 ⟨ai, ci, rfl, hb1⟩
    have HB1 := Lib.hid (bstep (below_alloc _ _) hb1)
    clear hb1
    go_wp2_with fail
    refine (HZ.out _ _ _).mono ?_
    rintro e w2 ⟨rfl, hb2⟩
    go_wp2_with fail
    go_ret
    exact ⟨ret_bool HF.out.symm, bstep HB1.out hb2⟩
  rw [hzz] at hz
  have HZ := Lib.hid hz
  have HZZ := Lib.hid hzz
  clear hz hzz
  have hk := HK.out
  have x1 : (f.k == 1) = false := by simp [hk]
  have x2 : (f.k == 2) = false := by simp [hk]
  have x3 : (f.k == 3) = false := by simp [hk]
  have x4 : (f.k == 4) = false := by simp [hk]
  have x5 : (f.k == 5) = false := by simp [hk]
  have x6 : (f.k == 6) = false := by simp [hk]
  have x7 : (f.k == 7) = false := by simp [hk]
  have x8 : (f.k == 8) = false := by simp [hk]
  have x9 : (f.k == 9) = false := by simp [hk]
  have x10 : (f.k == 10) = true := by simp [hk]
  have HOK := Lib.hid (show okK f it = (withinB f.n 0 16384 && validB f.bs f.n) by unfold okK; simp [hk])
  clear hk
  go_enter Tryd.func28, Tryd.ntmps28
  go_wp2_with fail
  refine (HBare.out _).mono ?_
  rintro e w1 ⟨ai, ci, rfl, hb1⟩
  have HX1 := Lib.hid (keepB hb1 (heap_alloc_new w _))
  have HB1 := Lib.hid (bstep (below_alloc _ _) hb1)
  clear hb1
  go_wp2_with fail
  refine (HZ.out _ _ _).mono ?_
  rintro e w2 ⟨rfl, hb2⟩
  have HX2 := Lib.hid (keepB hb2 HX1.out)
  have HB2 := Lib.hid (bstep HB1.out hb2)
  clear hb2 HX1 HB1 HBare HZ
  go_wp2_with fail
  go_loopw [3] (fun i wr => ∃ k : Nat, k ≤ it.len ∧ i = .int .i64 k ∧ Hid (formL it = formL (it.drop k)) ∧ Hid (wr.heap[w.heap.size]? = some (.cells #[.int .i64 f.k, .int .i64 f.i, .int .i64 f.g, .string f.nm, .string f.fn, .int .i64 f.ar, .slice ao it.len cap, .string f.bs, .int .i64 f.n] 24 (0, 0))) ∧ Hid (Below w.heap.size w wr)) (fun i _ => it.len - (intOf i).toNat)
  case atStart => exact ⟨0, Nat.zero_le _, rfl, Lib.hid (by rw [TL.drop_zero]), HX2, HB2⟩
  case round =>
    obtain ⟨k, hk, rfl, HE, HX, HB⟩ := hrel
    have b0 : wr.cell? ⟨w.heap.size, 0, none⟩ = some _ := cells_of HX.out 0
    have b1 : wr.cell? ⟨w.heap.size, 1, none⟩ = some _ := cells_of HX.out 1
    have b2 : wr.cell? ⟨w.heap.size, 2, none⟩ = some _ := cells_of HX.out 2
    have b3 : wr.cell? ⟨w.heap.size, 3, none⟩ = some _ := cells_of HX.out 3
    have b4 : wr.cell? ⟨w.heap.size, 4, none⟩ = some _ := cells_of HX.out 4
    have b5 : wr.cell? ⟨w.heap.size, 5, none⟩ = some _ := cells_of HX.out 5
    have b6 : wr.cell? ⟨w.heap.size, 6, none⟩ = some _ := cells_of HX.out 6
    have b7 : wr.cell? ⟨w.heap.size, 7, none⟩ = some _ := cells_of HX.out 7
    have b8 : wr.cell? ⟨w.heap.size, 8, none⟩ = some _ := cells_of HX.out 8
    by_cases hlt : k < it.len
    · have hlt' : (k : Int) < (it.len : Int) := by omega
      obtain ⟨f2, it2, e1⟩ := TL.drop_at it k hlt
      obtain ⟨b, o, rfl, hrd⟩ := HR.out (by intro e; rw [e] at hlt; simp [TL.len] at hlt)
      obtain ⟨hb, ai2, ci2, ⟨c0, c1, c2, c3, c4, c5, c6, c7, c8⟩, hit⟩ := Rd.nine hrd e1 (below_cells HB.out hB)
      have hcnt : it2.cnt < m := by
        have h1 := TL.cnt_drop it k
        rw [e1] at h1
        simp only [TL.cnt] at h1
        omega
      have hcall := HS.out it2.cnt hcnt f2 it2 (.slice ai2 it2.len ci2) wr A B (Nat.le_refl _) (small_at HSM.out.2.2.2 e1) hit (Nat.le_trans hB HB.out.size)
      have hfl := formL_drop e1 HE.out
      unfold FormedR at hcall
      generalize formT f2 it2 = s at hcall hfl
      have HCall := Lib.hid hcall
      have HFL := Lib.hid hfl
      clear hrd hit hcall e1 hfl
      go_wp2_with fail
      refine HCall.out.mono ?_
      rintro e w3 ⟨rfl, hb3⟩
      have HX3 := Lib.hid (keepB hb3 HX.out)
      have HB3 := Lib.hid (bstep HB.out hb3)
      clear hb3 c0 c1 c2 c3 c4 c5 c6 c7 c8 b0 b1 b2 b3 b4 b5 b6 b7 b8
      cases s
      · have HF := Lib.hid (formT_items (f := f) (show formL it = false by rw [HFL.out]; rfl))
        go_wp2_with fail
        go_ret
        exact ⟨ret_bool HF.out.symm, HB3.out⟩
      · go_wp2_with fail
        refine ⟨⟨k + 1, by omega, by go_num, Lib.hid (by rw [HFL.out, Bool.true_and]), HX3, HB3⟩, by simp only [intOf]; omega⟩
    · have hlt' : ¬ (k : Int) < (it.len : Int) := by omega
      have hfin := formT_ok HZZ.out (show formL it = true by rw [HE.out, TL.drop_len it k (by omega)]; rfl)
      rw [HOK.out] at hfin
      have HF := Lib.hid hfin
      clear hfin
      have H0 := Lib.hid (rbits_any f ao it.len cap wr (Nat.le_trans HSM.out.2.2.1 (by decide)))
      go_wp2_with fail
      refine H0.out.mono ?_
      rintro e w3 ⟨rfl, hb3⟩
      go_wp2_with fail
      go_ret
      exact ⟨ret_bool HF.out.symm, bstep HB.out hb3⟩
set_option maxHeartbeats 8000000 in
set_option maxRecDepth 100000 in
theorem formed_k0 (m : Nat) (hS : ∀ j, j < m → FormedC j) (f : Fd) (it : TL) (iv : Value) (w : World) (A B : Nat) (hm : it.cnt ≤ m) (hsm : smallT 1000000 f it) (hs : RdS w A B it iv) (hB : B ≤ w.heap.size) (h1 : f.k ≠ 1) (h2 : f.k ≠ 2) (h3 : f.k ≠ 3) (h4 : f.k ≠ 4) (h5 : f.k ≠ 5) (h6 : f.k ≠ 6) (h7 : f.k ≠ 7) (h8 : f.k ≠ 8) (h9 : f.k ≠ 9) (h10 : f.k ≠ 10) :
    Calls Tryd.prog 28 #[.agg #[.int .i64 f.k, .int .i64 f.i, .int .i64 f.g, .string f.nm, .string f.fn, .int .i64 f.ar, iv, .string f.bs, .int .i64 f.n]] w (FormedR f it w) := by
  have HIT := Lib.hid hs
  have HK := Lib.hid (And.intro h1 (And.intro h2 (And.intro h3 (And.intro h4 (And.intro h5 (And.intro h6 (And.intro h7 (And.intro h8 (And.intro h9 h10)))))))))
  clear h1 h2 h3 h4 h5 h6 h7 h8 h9 h10
  obtain ⟨ao, cap, rfl, hcap, hmax, hr⟩ := hs
  unfold maxLen at hmax
  have HR := Lib.hid hr
  have HS := Lib.hid hS
  have HSM := Lib.hid hsm
  have HBare := Lib.hid (bare_any f ao it.len cap)
  clear hr hS hsm
  have hz : ∀ (W : World) ai ci, Calls Tryd.prog 45 #[.agg #[.int .i64 (bareF f).k, .int .i64 (bareF f).i, .int .i64 (bareF f).g, .string (bareF f).nm, .string (bareF f).fn, .int .i64 (bareF f).ar, .slice ai (bareN f it.len) ci, .string (bareF f).bs, .int .i64 (bareF f).n]] W fun e w' => e = .returned (.bool (zeroB (bareF f) (bareN f it.len))) ∧ Below W.heap.size W w' := fun W ai ci => zero_any (bareF f) ai (bareN f it.len) ci W
  by_cases hzz : zeroB (bareF f) (bareN f it.len) = true
  case neg =>
    have hzf : zeroB (bareF f) (bareN f it.len) = false := by simpa using hzz
    have HF := Lib.hid (formT_zero hzf)
    rw [hzf] at hz
    have HZ := Lib.hid hz
    clear hz hzz hzf
    go_enter Tryd.func28, Tryd.ntmps28
    go_wp2_with fail
    refine (HBare.out _).mono ?_
    rintro e w1 ⟨ai, ci, rfl, hb1⟩
    have HB1 := Lib.hid (bstep (below_alloc _ _) hb1)
    clear hb1
    go_wp2_with fail
    refine (HZ.out _ _ _).mono ?_
    rintro e w2 ⟨rfl, hb2⟩
    go_wp2_with fail
    go_ret
    exact ⟨ret_bool HF.out.symm, bstep HB1.out hb2⟩
  rw [hzz] at hz
  have HZ := Lib.hid hz
  have HZZ := Lib.hid hzz
  clear hz hzz
  obtain ⟨h1, h2, h3, h4, h5, h6, h7, h8, h9, h10⟩ := HK.out
  have x1 : (f.k == 1) = false := by simpa using h1
  have x2 : (f.k == 2) = false := by simpa using h2
  have x3 : (f.k == 3) = false := by simpa using h3
  have x4 : (f.k == 4) = false := by simpa using h4
  have x5 : (f.k == 5) = false := by simpa using h5
  have x6 : (f.k == 6) = false := by simpa using h6
  have x7 : (f.k == 7) = false := by simpa using h7
  have x8 : (f.k == 8) = false := by simpa using h8
  have x9 : (f.k == 9) = false := by simpa using h9
  have x10 : (f.k == 10) = false := by simpa using h10
  have HOK := Lib.hid (show okK f it = false by unfold okK; simp [h1, h2, h3, h4, h5, h6, h7, h8, h9, h10])
  clear h1 h2 h3 h4 h5 h6 h7 h8 h9 h10
  go_enter Tryd.func28, Tryd.ntmps28
  go_wp2_with fail
  refine (HBare.out _).mono ?_
  rintro e w1 ⟨ai, ci, rfl, hb1⟩
  have HX1 := Lib.hid (keepB hb1 (heap_alloc_new w _))
  have HB1 := Lib.hid (bstep (below_alloc _ _) hb1)
  clear hb1
  go_wp2_with fail
  refine (HZ.out _ _ _).mono ?_
  rintro e w2 ⟨rfl, hb2⟩
  have HX2 := Lib.hid (keepB hb2 HX1.out)
  have HB2 := Lib.hid (bstep HB1.out hb2)
  clear hb2 HX1 HB1 HBare HZ
  go_wp2_with fail
  go_loopw [3] (fun i wr => ∃ k : Nat, k ≤ it.len ∧ i = .int .i64 k ∧ Hid (formL it = formL (it.drop k)) ∧ Hid (wr.heap[w.heap.size]? = some (.cells #[.int .i64 f.k, .int .i64 f.i, .int .i64 f.g, .string f.nm, .string f.fn, .int .i64 f.ar, .slice ao it.len cap, .string f.bs, .int .i64 f.n] 24 (0, 0))) ∧ Hid (Below w.heap.size w wr)) (fun i _ => it.len - (intOf i).toNat)
  case atStart => exact ⟨0, Nat.zero_le _, rfl, Lib.hid (by rw [TL.drop_zero]), HX2, HB2⟩
  case round =>
    obtain ⟨k, hk, rfl, HE, HX, HB⟩ := hrel
    have b0 : wr.cell? ⟨w.heap.size, 0, none⟩ = some _ := cells_of HX.out 0
    have b1 : wr.cell? ⟨w.heap.size, 1, none⟩ = some _ := cells_of HX.out 1
    have b2 : wr.cell? ⟨w.heap.size, 2, none⟩ = some _ := cells_of HX.out 2
    have b3 : wr.cell? ⟨w.heap.size, 3, none⟩ = some _ := cells_of HX.out 3
    have b4 : wr.cell? ⟨w.heap.size, 4, none⟩ = some _ := cells_of HX.out 4
    have b5 : wr.cell? ⟨w.heap.size, 5, none⟩ = some _ := cells_of HX.out 5
    have b6 : wr.cell? ⟨w.heap.size, 6, none⟩ = some _ := cells_of HX.out 6
    have b7 : wr.cell? ⟨w.heap.size, 7, none⟩ = some _ := cells_of HX.out 7
    have b8 : wr.cell? ⟨w.heap.size, 8, none⟩ = some _ := cells_of HX.out 8
    by_cases hlt : k < it.len
    · have hlt' : (k : Int) < (it.len : Int) := by omega
      obtain ⟨f2, it2, e1⟩ := TL.drop_at it k hlt
      obtain ⟨b, o, rfl, hrd⟩ := HR.out (by intro e; rw [e] at hlt; simp [TL.len] at hlt)
      obtain ⟨hb, ai2, ci2, ⟨c0, c1, c2, c3, c4, c5, c6, c7, c8⟩, hit⟩ := Rd.nine hrd e1 (below_cells HB.out hB)
      have hcnt : it2.cnt < m := by
        have h1 := TL.cnt_drop it k
        rw [e1] at h1
        simp only [TL.cnt] at h1
        omega
      have hcall := HS.out it2.cnt hcnt f2 it2 (.slice ai2 it2.len ci2) wr A B (Nat.le_refl _) (small_at HSM.out.2.2.2 e1) hit (Nat.le_trans hB HB.out.size)
      have hfl := formL_drop e1 HE.out
      unfold FormedR at hcall
      generalize formT f2 it2 = s at hcall hfl
      have HCall := Lib.hid hcall
      have HFL := Lib.hid hfl
      clear hrd hit hcall e1 hfl
      go_wp2_with fail
      refine HCall.out.mono ?_
      rintro e w3 ⟨rfl, hb3⟩
      have HX3 := Lib.hid (keepB hb3 HX.out)
      have HB3 := Lib.hid (bstep HB.out hb3)
      clear hb3 c0 c1 c2 c3 c4 c5 c6 c7 c8 b0 b1 b2 b3 b4 b5 b6 b7 b8
      cases s
      · have HF := Lib.hid (formT_items (f := f) (show formL it = false by rw [HFL.out]; rfl))
        go_wp2_with fail
        go_ret
        exact ⟨ret_bool HF.out.symm, HB3.out⟩
      · go_wp2_with fail
        refine ⟨⟨k + 1, by omega, by go_num, Lib.hid (by rw [HFL.out, Bool.true_and]), HX3, HB3⟩, by simp only [intOf]; omega⟩
    · have hlt' : ¬ (k : Int) < (it.len : Int) := by omega
      have hfin := formT_ok HZZ.out (show formL it = true by rw [HE.out, TL.drop_len it k (by omega)]; rfl)
      rw [HOK.out] at hfin
      have HF := Lib.hid hfin
      clear hfin
      go_wp2_with fail
      go_ret
      exact ⟨ret_bool HF.out.symm, HB.out⟩
theorem formed_all (m : Nat) : FormedC m := by
  induction m using Nat.strongRecOn with
  | _ m ih =>
    intro f it iv w A B hm hsm hs hB
    by_cases h1 : f.k = 1
    · exact formed_k1 m ih f it iv w A B hm hsm hs hB h1
    by_cases h2 : f.k = 2
    · exact formed_k2 m ih f it iv w A B hm hsm hs hB h2
    by_cases h3 : f.k = 3
    · exact formed_k3 m ih f it iv w A B hm hsm hs hB h3
    by_cases h4 : f.k = 4
    · exact formed_k4 m ih f it iv w A B hm hsm hs hB h4
    by_cases h5 : f.k = 5
    · exact formed_k5 m ih f it iv w A B hm hsm hs hB h5
    by_cases h6 : f.k = 6
    · exact formed_k6 m ih f it iv w A B hm hsm hs hB h6
    by_cases h7 : f.k = 7
    · exact formed_k7 m ih f it iv w A B hm hsm hs hB h7
    by_cases h8 : f.k = 8
    · exact formed_k8 m ih f it iv w A B hm hsm hs hB h8
    by_cases h9 : f.k = 9
    · exact formed_k9 m ih f it iv w A B hm hsm hs hB h9
    by_cases h10 : f.k = 10
    · exact formed_k10 m ih f it iv w A B hm hsm hs hB h10
    exact formed_k0 m ih f it iv w A B hm hsm hs hB h1 h2 h3 h4 h5 h6 h7 h8 h9 h10
end Go.Proofs.YtgfodedmcjkmaaaDoor
