/-
  Walks: the closures of terms.kinds that call names.Valid and within.
-/
import Derived.Test.YtgfodedmcjkmaaaDoorSets
namespace Go.Proofs.YtgfodedmcjkmaaaDoor
open Go.RowKit
theorem kind_eq (f : Fd) (iv : Value) (a b : Bool) (h : a = b) : kindRet f iv a = kindRet f iv b := by rw [h]
set_option maxHeartbeats 4000000 in
theorem kind4_any (f : Fd) (ai : Option Addr) (l ci : Nat) (w : World) (hnm : f.nm.size ≤ maxLen) :
    Calls Tryd.prog 75 #[f.val (.slice ai l ci)] w fun e w' => e = kindRet {f with nm := ⟨#[]⟩} (.slice ai l ci) (nameB f.nm) ∧ Below w.heap.size w w' := by
  have H0 := Lib.hid (fun W => Valid_any f.nm hnm W)
  generalize nameB f.nm = b0 at H0 ⊢
  obtain ⟨k, i, g, nm, fn, ar, bs, n⟩ := f
  simp only at *
  unfold Fd.val Fd.cells
  cases b0
  case false =>
    go_enter Tryd.func75, Tryd.ntmps75
    go_wp2_with fail
    refine (H0.out _).mono ?_
    rintro e w2 ⟨rfl, hb2⟩
    have HA := Lib.hid (keepB hb2 (new2_0 w _ _))
    have HR := Lib.hid (keepB hb2 (new2_1 w _ _))
    have HB := Lib.hid (bstep (balloc (balloc (Below.refl _ _) _) _) hb2)
    clear hb2
    have c0 := cells_of HA.out 0
    have c1 := cells_of HA.out 1
    have c2 := cells_of HA.out 2
    have c3 := cells_of HA.out 3
    have c4 := cells_of HA.out 4
    have c5 := cells_of HA.out 5
    have c6 := cells_of HA.out 6
    have c7 := cells_of HA.out 7
    have c8 := cells_of HA.out 8
    have d0 := cells_of HR.out 0
    have d1 := cells_of HR.out 1
    have d2 := cells_of HR.out 2
    have d3 := cells_of HR.out 3
    have d4 := cells_of HR.out 4
    have d5 := cells_of HR.out 5
    have d6 := cells_of HR.out 6
    have d7 := cells_of HR.out 7
    have d8 := cells_of HR.out 8
    simp only [List.getElem?_toArray, List.getElem?_cons_succ, List.getElem?_cons_zero] at c0 c1 c2 c3 c4 c5 c6 c7 c8 d0 d1 d2 d3 d4 d5 d6 d7 d8
    have z0 := lt_of_block HR.out
    have fz : ∀ k, w2.frozen? ⟨w.heap.size, k, none⟩ = false := fun k => frees_of HA.out k
    have fr : ∀ k, w2.frozen? ⟨w.heap.size + 1, k, none⟩ = false := fun k => frees_of HR.out k
    go_wp2_with fail
    refine bodyPost_ret (results_pair rfl _ _ (w.heap.size + 1) _ _ _ _ _ _ _ _ _ rfl (nine_blk (blk_oth (HR.out) (by omega) _ _) _ _ _ _ _ _ _ _ _)) rfl ⟨rfl, ?_⟩
    repeat (with_reducible refine bset ?_ (by simp) _)
    exact HB.out
  go_enter Tryd.func75, Tryd.ntmps75
  go_wp2_with fail
  refine (H0.out _).mono ?_
  rintro e w2 ⟨rfl, hb2⟩
  have HA := Lib.hid (keepB hb2 (new2_0 w _ _))
  have HR := Lib.hid (keepB hb2 (new2_1 w _ _))
  have HB := Lib.hid (bstep (balloc (balloc (Below.refl _ _) _) _) hb2)
  clear hb2
  have c0 := cells_of HA.out 0
  have c1 := cells_of HA.out 1
  have c2 := cells_of HA.out 2
  have c3 := cells_of HA.out 3
  have c4 := cells_of HA.out 4
  have c5 := cells_of HA.out 5
  have c6 := cells_of HA.out 6
  have c7 := cells_of HA.out 7
  have c8 := cells_of HA.out 8
  have d0 := cells_of HR.out 0
  have d1 := cells_of HR.out 1
  have d2 := cells_of HR.out 2
  have d3 := cells_of HR.out 3
  have d4 := cells_of HR.out 4
  have d5 := cells_of HR.out 5
  have d6 := cells_of HR.out 6
  have d7 := cells_of HR.out 7
  have d8 := cells_of HR.out 8
  simp only [List.getElem?_toArray, List.getElem?_cons_succ, List.getElem?_cons_zero] at c0 c1 c2 c3 c4 c5 c6 c7 c8 d0 d1 d2 d3 d4 d5 d6 d7 d8
  have z0 := lt_of_block HR.out
  have fz : ∀ k, w2.frozen? ⟨w.heap.size, k, none⟩ = false := fun k => frees_of HA.out k
  have fr : ∀ k, w2.frozen? ⟨w.heap.size + 1, k, none⟩ = false := fun k => frees_of HR.out k
  go_wp2_with fail
  refine bodyPost_ret (results_pair rfl _ _ (w.heap.size + 1) _ _ _ _ _ _ _ _ _ rfl (nine_blk (blk_oth (HR.out) (by omega) _ _) _ _ _ _ _ _ _ _ _)) rfl ⟨rfl, ?_⟩
  repeat (with_reducible refine bset ?_ (by simp) _)
  exact HB.out
set_option maxHeartbeats 4000000 in
theorem kind1_any (f : Fd) (ai : Option Addr) (l ci : Nat) (w : World) (hnm : f.nm.size ≤ maxLen) :
    Calls Tryd.prog 70 #[f.val (.slice ai l ci)] w fun e w' => e = kindRet {f with i := 0, g := 0, nm := ⟨#[]⟩} (.slice ai l ci) (withinB f.i 1 2147483647 && withinB f.g 1 2147483647 && nameB f.nm) ∧ Below w.heap.size w w' := by
  have H0 := Lib.hid (fun W => within_any f.i 1 2147483647 W)
  generalize withinB f.i 1 2147483647 = b0 at H0 ⊢
  have H1 := Lib.hid (fun W => within_any f.g 1 2147483647 W)
  generalize withinB f.g 1 2147483647 = b1 at H1 ⊢
  have H2 := Lib.hid (fun W => Valid_any f.nm hnm W)
  generalize nameB f.nm = b2 at H2 ⊢
  obtain ⟨k, i, g, nm, fn, ar, bs, n⟩ := f
  simp only at *
  unfold Fd.val Fd.cells
  cases b0
  case false =>
    go_enter Tryd.func70, Tryd.ntmps70
    go_wp2_with (first | (go_at_call 71; with_reducible refine (H0.out _).mono ?_; rintro e w' ⟨rfl, rfl⟩))
    refine bodyPost_ret (results_pair rfl _ _ (w.heap.size + 1) _ _ _ _ _ _ _ _ _ rfl (new2_1 w _ _)) rfl ⟨rfl, ?_⟩
    repeat (with_reducible refine bset ?_ (by simp) _)
    exact balloc (balloc (Below.refl _ _) _) _
  cases b1
  case false =>
    go_enter Tryd.func70, Tryd.ntmps70
    go_wp2_with (first | (go_at_call 71; with_reducible refine (H0.out _).mono ?_; rintro e w' ⟨rfl, rfl⟩) | (go_at_call 71; with_reducible refine (H1.out _).mono ?_; rintro e w' ⟨rfl, rfl⟩))
    refine bodyPost_ret (results_pair rfl _ _ (w.heap.size + 1) _ _ _ _ _ _ _ _ _ rfl (new2_1 w _ _)) rfl ⟨rfl, ?_⟩
    repeat (with_reducible refine bset ?_ (by simp) _)
    exact balloc (balloc (Below.refl _ _) _) _
  cases b2
  case false =>
    go_enter Tryd.func70, Tryd.ntmps70
    go_wp2_with (first | (go_at_call 71; with_reducible refine (H0.out _).mono ?_; rintro e w' ⟨rfl, rfl⟩) | (go_at_call 71; with_reducible refine (H1.out _).mono ?_; rintro e w' ⟨rfl, rfl⟩))
    refine (H2.out _).mono ?_
    rintro e w2 ⟨rfl, hb2⟩
    have HA := Lib.hid (keepB hb2 (new2_0 w _ _))
    have HR := Lib.hid (keepB hb2 (new2_1 w _ _))
    have HB := Lib.hid (bstep (balloc (balloc (Below.refl _ _) _) _) hb2)
    clear hb2
    have c0 := cells_of HA.out 0
    have c1 := cells_of HA.out 1
    have c2 := cells_of HA.out 2
    have c3 := cells_of HA.out 3
    have c4 := cells_of HA.out 4
    have c5 := cells_of HA.out 5
    have c6 := cells_of HA.out 6
    have c7 := cells_of HA.out 7
    have c8 := cells_of HA.out 8
    have d0 := cells_of HR.out 0
    have d1 := cells_of HR.out 1
    have d2 := cells_of HR.out 2
    have d3 := cells_of HR.out 3
    have d4 := cells_of HR.out 4
    have d5 := cells_of HR.out 5
    have d6 := cells_of HR.out 6
    have d7 := cells_of HR.out 7
    have d8 := cells_of HR.out 8
    simp only [List.getElem?_toArray, List.getElem?_cons_succ, List.getElem?_cons_zero] at c0 c1 c2 c3 c4 c5 c6 c7 c8 d0 d1 d2 d3 d4 d5 d6 d7 d8
    have z0 := lt_of_block HR.out
    have fz : ∀ k, w2.frozen? ⟨w.heap.size, k, none⟩ = false := fun k => frees_of HA.out k
    have fr : ∀ k, w2.frozen? ⟨w.heap.size + 1, k, none⟩ = false := fun k => frees_of HR.out k
    go_wp2_with (first | (go_at_call 71; with_reducible refine (H0.out _).mono ?_; rintro e w' ⟨rfl, rfl⟩) | (go_at_call 71; with_reducible refine (H1.out _).mono ?_; rintro e w' ⟨rfl, rfl⟩))
    refine bodyPost_ret (results_pair rfl _ _ (w.heap.size + 1) _ _ _ _ _ _ _ _ _ rfl (nine_blk (blk_oth (blk_oth (blk_oth (HR.out) (by omega) _ _) (by omega) _ _) (by omega) _ _) _ _ _ _ _ _ _ _ _)) rfl ⟨rfl, ?_⟩
    repeat (with_reducible refine bset ?_ (by simp) _)
    exact HB.out
  go_enter Tryd.func70, Tryd.ntmps70
  go_wp2_with (first | (go_at_call 71; with_reducible refine (H0.out _).mono ?_; rintro e w' ⟨rfl, rfl⟩) | (go_at_call 71; with_reducible refine (H1.out _).mono ?_; rintro e w' ⟨rfl, rfl⟩))
  refine (H2.out _).mono ?_
  rintro e w2 ⟨rfl, hb2⟩
  have HA := Lib.hid (keepB hb2 (new2_0 w _ _))
  have HR := Lib.hid (keepB hb2 (new2_1 w _ _))
  have HB := Lib.hid (bstep (balloc (balloc (Below.refl _ _) _) _) hb2)
  clear hb2
  have c0 := cells_of HA.out 0
  have c1 := cells_of HA.out 1
  have c2 := cells_of HA.out 2
  have c3 := cells_of HA.out 3
  have c4 := cells_of HA.out 4
  have c5 := cells_of HA.out 5
  have c6 := cells_of HA.out 6
  have c7 := cells_of HA.out 7
  have c8 := cells_of HA.out 8
  have d0 := cells_of HR.out 0
  have d1 := cells_of HR.out 1
  have d2 := cells_of HR.out 2
  have d3 := cells_of HR.out 3
  have d4 := cells_of HR.out 4
  have d5 := cells_of HR.out 5
  have d6 := cells_of HR.out 6
  have d7 := cells_of HR.out 7
  have d8 := cells_of HR.out 8
  simp only [List.getElem?_toArray, List.getElem?_cons_succ, List.getElem?_cons_zero] at c0 c1 c2 c3 c4 c5 c6 c7 c8 d0 d1 d2 d3 d4 d5 d6 d7 d8
  have z0 := lt_of_block HR.out
  have fz : ∀ k, w2.frozen? ⟨w.heap.size, k, none⟩ = false := fun k => frees_of HA.out k
  have fr : ∀ k, w2.frozen? ⟨w.heap.size + 1, k, none⟩ = false := fun k => frees_of HR.out k
  go_wp2_with (first | (go_at_call 71; with_reducible refine (H0.out _).mono ?_; rintro e w' ⟨rfl, rfl⟩) | (go_at_call 71; with_reducible refine (H1.out _).mono ?_; rintro e w' ⟨rfl, rfl⟩))
  refine bodyPost_ret (results_pair rfl _ _ (w.heap.size + 1) _ _ _ _ _ _ _ _ _ rfl (nine_blk (blk_oth (blk_oth (blk_oth (HR.out) (by omega) _ _) (by omega) _ _) (by omega) _ _) _ _ _ _ _ _ _ _ _)) rfl ⟨rfl, ?_⟩
  repeat (with_reducible refine bset ?_ (by simp) _)
  exact HB.out
set_option maxHeartbeats 4000000 in
theorem kind6_any (f : Fd) (ai : Option Addr) (l ci : Nat) (w : World) (hnm : f.nm.size ≤ maxLen) (hfn : f.fn.size ≤ maxLen) :
    Calls Tryd.prog 77 #[f.val (.slice ai l ci)] w fun e w' => e = kindRet {f with nm := ⟨#[]⟩, fn := ⟨#[]⟩, ar := 0} (.slice ai l ci) (nameB f.nm && nameB f.fn && withinB f.ar 0 16) ∧ Below w.heap.size w w' := by
  have H0 := Lib.hid (fun W => Valid_any f.nm hnm W)
  generalize nameB f.nm = b0 at H0 ⊢
  have H1 := Lib.hid (fun W => Valid_any f.fn hfn W)
  generalize nameB f.fn = b1 at H1 ⊢
  have H2 := Lib.hid (fun W => within_any f.ar 0 16 W)
  generalize withinB f.ar 0 16 = b2 at H2 ⊢
  obtain ⟨k, i, g, nm, fn, ar, bs, n⟩ := f
  simp only at *
  unfold Fd.val Fd.cells
  cases b0
  case false =>
    go_enter Tryd.func77, Tryd.ntmps77
    go_wp2_with fail
    refine (H0.out _).mono ?_
    rintro e w2 ⟨rfl, hb2⟩
    have HA := Lib.hid (keepB hb2 (new2_0 w _ _))
    have HR := Lib.hid (keepB hb2 (new2_1 w _ _))
    have HB := Lib.hid (bstep (balloc (balloc (Below.refl _ _) _) _) hb2)
    clear hb2
    have c0 := cells_of HA.out 0
    have c1 := cells_of HA.out 1
    have c2 := cells_of HA.out 2
    have c3 := cells_of HA.out 3
    have c4 := cells_of HA.out 4
    have c5 := cells_of HA.out 5
    have c6 := cells_of HA.out 6
    have c7 := cells_of HA.out 7
    have c8 := cells_of HA.out 8
    have d0 := cells_of HR.out 0
    have d1 := cells_of HR.out 1
    have d2 := cells_of HR.out 2
    have d3 := cells_of HR.out 3
    have d4 := cells_of HR.out 4
    have d5 := cells_of HR.out 5
    have d6 := cells_of HR.out 6
    have d7 := cells_of HR.out 7
    have d8 := cells_of HR.out 8
    simp only [List.getElem?_toArray, List.getElem?_cons_succ, List.getElem?_cons_zero] at c0 c1 c2 c3 c4 c5 c6 c7 c8 d0 d1 d2 d3 d4 d5 d6 d7 d8
    have z0 := lt_of_block HR.out
    have fz : ∀ k, w2.frozen? ⟨w.heap.size, k, none⟩ = false := fun k => frees_of HA.out k
    have fr : ∀ k, w2.frozen? ⟨w.heap.size + 1, k, none⟩ = false := fun k => frees_of HR.out k
    go_wp2_with fail
    refine bodyPost_ret (results_pair rfl _ _ (w.heap.size + 1) _ _ _ _ _ _ _ _ _ rfl (nine_blk (blk_oth (blk_oth (blk_oth (HR.out) (by omega) _ _) (by omega) _ _) (by omega) _ _) _ _ _ _ _ _ _ _ _)) rfl ⟨rfl, ?_⟩
    repeat (with_reducible refine bset ?_ (by simp) _)
    exact HB.out
  cases b1
  case false =>
    go_enter Tryd.func77, Tryd.ntmps77
    go_wp2_with fail
    refine (H0.out _).mono ?_
    rintro e w2 ⟨rfl, hb2⟩
    have HA := Lib.hid (keepB hb2 (new2_0 w _ _))
    have HR := Lib.hid (keepB hb2 (new2_1 w _ _))
    have HB := Lib.hid (bstep (balloc (balloc (Below.refl _ _) _) _) hb2)
    clear hb2
    have c0 := cells_of HA.out 0
    have c1 := cells_of HA.out 1
    have c2 := cells_of HA.out 2
    have c3 := cells_of HA.out 3
    have c4 := cells_of HA.out 4
    have c5 := cells_of HA.out 5
    have c6 := cells_of HA.out 6
    have c7 := cells_of HA.out 7
    have c8 := cells_of HA.out 8
    have d0 := cells_of HR.out 0
    have d1 := cells_of HR.out 1
    have d2 := cells_of HR.out 2
    have d3 := cells_of HR.out 3
    have d4 := cells_of HR.out 4
    have d5 := cells_of HR.out 5
    have d6 := cells_of HR.out 6
    have d7 := cells_of HR.out 7
    have d8 := cells_of HR.out 8
    simp only [List.getElem?_toArray, List.getElem?_cons_succ, List.getElem?_cons_zero] at c0 c1 c2 c3 c4 c5 c6 c7 c8 d0 d1 d2 d3 d4 d5 d6 d7 d8
    have z0 := lt_of_block HR.out
    have fz : ∀ k, w2.frozen? ⟨w.heap.size, k, none⟩ = false := fun k => frees_of HA.out k
    have fr : ∀ k, w2.frozen? ⟨w.heap.size + 1, k, none⟩ = false := fun k => frees_of HR.out k
    go_wp2_with fail
    refine (H1.out _).mono ?_
    rintro e w3 ⟨rfl, hb3⟩
    clear c0 c1 c2 c3 c4 c5 c6 c7 c8 d0 d1 d2 d3 d4 d5 d6 d7 d8 z0 fz fr
    have HA := Lib.hid (keepB hb3 HA.out)
    have HR := Lib.hid (keepB hb3 HR.out)
    have HB := Lib.hid (bstep HB.out hb3)
    clear hb3
    have c0 := cells_of HA.out 0
    have c1 := cells_of HA.out 1
    have c2 := cells_of HA.out 2
    have c3 := cells_of HA.out 3
    have c4 := cells_of HA.out 4
    have c5 := cells_of HA.out 5
    have c6 := cells_of HA.out 6
    have c7 := cells_of HA.out 7
    have c8 := cells_of HA.out 8
    have d0 := cells_of HR.out 0
    have d1 := cells_of HR.out 1
    have d2 := cells_of HR.out 2
    have d3 := cells_of HR.out 3
    have d4 := cells_of HR.out 4
    have d5 := cells_of HR.out 5
    have d6 := cells_of HR.out 6
    have d7 := cells_of HR.out 7
    have d8 := cells_of HR.out 8
    simp only [List.getElem?_toArray, List.getElem?_cons_succ, List.getElem?_cons_zero] at c0 c1 c2 c3 c4 c5 c6 c7 c8 d0 d1 d2 d3 d4 d5 d6 d7 d8
    have z0 := lt_of_block HR.out
    have fz : ∀ k, w3.frozen? ⟨w.heap.size, k, none⟩ = false := fun k => frees_of HA.out k
    have fr : ∀ k, w3.frozen? ⟨w.heap.size + 1, k, none⟩ = false := fun k => frees_of HR.out k
    go_wp2_with fail
    refine bodyPost_ret (results_pair rfl _ _ (w.heap.size + 1) _ _ _ _ _ _ _ _ _ rfl (nine_blk (blk_oth (blk_oth (blk_oth (HR.out) (by omega) _ _) (by omega) _ _) (by omega) _ _) _ _ _ _ _ _ _ _ _)) rfl ⟨rfl, ?_⟩
    repeat (with_reducible refine bset ?_ (by simp) _)
    exact HB.out
  cases b2
  case false =>
    go_enter Tryd.func77, Tryd.ntmps77
    go_wp2_with (first | (go_at_call 71; with_reducible refine (H2.out _).mono ?_; rintro e w' ⟨rfl, rfl⟩))
    refine (H0.out _).mono ?_
    rintro e w2 ⟨rfl, hb2⟩
    have HA := Lib.hid (keepB hb2 (new2_0 w _ _))
    have HR := Lib.hid (keepB hb2 (new2_1 w _ _))
    have HB := Lib.hid (bstep (balloc (balloc (Below.refl _ _) _) _) hb2)
    clear hb2
    have c0 := cells_of HA.out 0
    have c1 := cells_of HA.out 1
    have c2 := cells_of HA.out 2
    have c3 := cells_of HA.out 3
    have c4 := cells_of HA.out 4
    have c5 := cells_of HA.out 5
    have c6 := cells_of HA.out 6
    have c7 := cells_of HA.out 7
    have c8 := cells_of HA.out 8
    have d0 := cells_of HR.out 0
    have d1 := cells_of HR.out 1
    have d2 := cells_of HR.out 2
    have d3 := cells_of HR.out 3
    have d4 := cells_of HR.out 4
    have d5 := cells_of HR.out 5
    have d6 := cells_of HR.out 6
    have d7 := cells_of HR.out 7
    have d8 := cells_of HR.out 8
    simp only [List.getElem?_toArray, List.getElem?_cons_succ, List.getElem?_cons_zero] at c0 c1 c2 c3 c4 c5 c6 c7 c8 d0 d1 d2 d3 d4 d5 d6 d7 d8
    have z0 := lt_of_block HR.out
    have fz : ∀ k, w2.frozen? ⟨w.heap.size, k, none⟩ = false := fun k => frees_of HA.out k
    have fr : ∀ k, w2.frozen? ⟨w.heap.size + 1, k, none⟩ = false := fun k => frees_of HR.out k
    go_wp2_with (first | (go_at_call 71; with_reducible refine (H2.out _).mono ?_; rintro e w' ⟨rfl, rfl⟩))
    refine (H1.out _).mono ?_
    rintro e w3 ⟨rfl, hb3⟩
    clear c0 c1 c2 c3 c4 c5 c6 c7 c8 d0 d1 d2 d3 d4 d5 d6 d7 d8 z0 fz fr
    have HA := Lib.hid (keepB hb3 HA.out)
    have HR := Lib.hid (keepB hb3 HR.out)
    have HB := Lib.hid (bstep HB.out hb3)
    clear hb3
    have c0 := cells_of HA.out 0
    have c1 := cells_of HA.out 1
    have c2 := cells_of HA.out 2
    have c3 := cells_of HA.out 3
    have c4 := cells_of HA.out 4
    have c5 := cells_of HA.out 5
    have c6 := cells_of HA.out 6
    have c7 := cells_of HA.out 7
    have c8 := cells_of HA.out 8
    have d0 := cells_of HR.out 0
    have d1 := cells_of HR.out 1
    have d2 := cells_of HR.out 2
    have d3 := cells_of HR.out 3
    have d4 := cells_of HR.out 4
    have d5 := cells_of HR.out 5
    have d6 := cells_of HR.out 6
    have d7 := cells_of HR.out 7
    have d8 := cells_of HR.out 8
    simp only [List.getElem?_toArray, List.getElem?_cons_succ, List.getElem?_cons_zero] at c0 c1 c2 c3 c4 c5 c6 c7 c8 d0 d1 d2 d3 d4 d5 d6 d7 d8
    have z0 := lt_of_block HR.out
    have fz : ∀ k, w3.frozen? ⟨w.heap.size, k, none⟩ = false := fun k => frees_of HA.out k
    have fr : ∀ k, w3.frozen? ⟨w.heap.size + 1, k, none⟩ = false := fun k => frees_of HR.out k
    go_wp2_with (first | (go_at_call 71; with_reducible refine (H2.out _).mono ?_; rintro e w' ⟨rfl, rfl⟩))
    refine bodyPost_ret (results_pair rfl _ _ (w.heap.size + 1) _ _ _ _ _ _ _ _ _ rfl (nine_blk (blk_oth (blk_oth (blk_oth (HR.out) (by omega) _ _) (by omega) _ _) (by omega) _ _) _ _ _ _ _ _ _ _ _)) rfl ⟨rfl, ?_⟩
    repeat (with_reducible refine bset ?_ (by simp) _)
    exact HB.out
  go_enter Tryd.func77, Tryd.ntmps77
  go_wp2_with (first | (go_at_call 71; with_reducible refine (H2.out _).mono ?_; rintro e w' ⟨rfl, rfl⟩))
  refine (H0.out _).mono ?_
  rintro e w2 ⟨rfl, hb2⟩
  have HA := Lib.hid (keepB hb2 (new2_0 w _ _))
  have HR := Lib.hid (keepB hb2 (new2_1 w _ _))
  have HB := Lib.hid (bstep (balloc (balloc (Below.refl _ _) _) _) hb2)
  clear hb2
  have c0 := cells_of HA.out 0
  have c1 := cells_of HA.out 1
  have c2 := cells_of HA.out 2
  have c3 := cells_of HA.out 3
  have c4 := cells_of HA.out 4
  have c5 := cells_of HA.out 5
  have c6 := cells_of HA.out 6
  have c7 := cells_of HA.out 7
  have c8 := cells_of HA.out 8
  have d0 := cells_of HR.out 0
  have d1 := cells_of HR.out 1
  have d2 := cells_of HR.out 2
  have d3 := cells_of HR.out 3
  have d4 := cells_of HR.out 4
  have d5 := cells_of HR.out 5
  have d6 := cells_of HR.out 6
  have d7 := cells_of HR.out 7
  have d8 := cells_of HR.out 8
  simp only [List.getElem?_toArray, List.getElem?_cons_succ, List.getElem?_cons_zero] at c0 c1 c2 c3 c4 c5 c6 c7 c8 d0 d1 d2 d3 d4 d5 d6 d7 d8
  have z0 := lt_of_block HR.out
  have fz : ∀ k, w2.frozen? ⟨w.heap.size, k, none⟩ = false := fun k => frees_of HA.out k
  have fr : ∀ k, w2.frozen? ⟨w.heap.size + 1, k, none⟩ = false := fun k => frees_of HR.out k
  go_wp2_with (first | (go_at_call 71; with_reducible refine (H2.out _).mono ?_; rintro e w' ⟨rfl, rfl⟩))
  refine (H1.out _).mono ?_
  rintro e w3 ⟨rfl, hb3⟩
  clear c0 c1 c2 c3 c4 c5 c6 c7 c8 d0 d1 d2 d3 d4 d5 d6 d7 d8 z0 fz fr
  have HA := Lib.hid (keepB hb3 HA.out)
  have HR := Lib.hid (keepB hb3 HR.out)
  have HB := Lib.hid (bstep HB.out hb3)
  clear hb3
  have c0 := cells_of HA.out 0
  have c1 := cells_of HA.out 1
  have c2 := cells_of HA.out 2
  have c3 := cells_of HA.out 3
  have c4 := cells_of HA.out 4
  have c5 := cells_of HA.out 5
  have c6 := cells_of HA.out 6
  have c7 := cells_of HA.out 7
  have c8 := cells_of HA.out 8
  have d0 := cells_of HR.out 0
  have d1 := cells_of HR.out 1
  have d2 := cells_of HR.out 2
  have d3 := cells_of HR.out 3
  have d4 := cells_of HR.out 4
  have d5 := cells_of HR.out 5
  have d6 := cells_of HR.out 6
  have d7 := cells_of HR.out 7
  have d8 := cells_of HR.out 8
  simp only [List.getElem?_toArray, List.getElem?_cons_succ, List.getElem?_cons_zero] at c0 c1 c2 c3 c4 c5 c6 c7 c8 d0 d1 d2 d3 d4 d5 d6 d7 d8
  have z0 := lt_of_block HR.out
  have fz : ∀ k, w3.frozen? ⟨w.heap.size, k, none⟩ = false := fun k => frees_of HA.out k
  have fr : ∀ k, w3.frozen? ⟨w.heap.size + 1, k, none⟩ = false := fun k => frees_of HR.out k
  go_wp2_with (first | (go_at_call 71; with_reducible refine (H2.out _).mono ?_; rintro e w' ⟨rfl, rfl⟩))
  refine bodyPost_ret (results_pair rfl _ _ (w.heap.size + 1) _ _ _ _ _ _ _ _ _ rfl (nine_blk (blk_oth (blk_oth (blk_oth (HR.out) (by omega) _ _) (by omega) _ _) (by omega) _ _) _ _ _ _ _ _ _ _ _)) rfl ⟨rfl, ?_⟩
  repeat (with_reducible refine bset ?_ (by simp) _)
  exact HB.out
set_option maxHeartbeats 4000000 in
theorem kind5_any (f : Fd) (ai : Option Addr) (l ci : Nat) (w : World) (hnm : f.nm.size ≤ maxLen) :
    Calls Tryd.prog 76 #[f.val (.slice ai l ci)] w fun e w' => e = kindRet {f with i := 0, g := 0, nm := ⟨#[]⟩, ar := 0} (.slice none 0 0) (withinB f.i 0 999 && withinB f.g 1 2147483647 && nameB f.nm && withinB f.ar 0 16 && decide ((l : Int) ≤ 200)) ∧ Below w.heap.size w w' := by
  have H0 := Lib.hid (fun W => within_any f.i 0 999 W)
  generalize withinB f.i 0 999 = b0 at H0 ⊢
  have H1 := Lib.hid (fun W => within_any f.g 1 2147483647 W)
  generalize withinB f.g 1 2147483647 = b1 at H1 ⊢
  have H2 := Lib.hid (fun W => Valid_any f.nm hnm W)
  generalize nameB f.nm = b2 at H2 ⊢
  have H3 := Lib.hid (fun W => within_any f.ar 0 16 W)
  generalize withinB f.ar 0 16 = b3 at H3 ⊢
  obtain ⟨k, i, g, nm, fn, ar, bs, n⟩ := f
  simp only at *
  unfold Fd.val Fd.cells
  cases b0
  case false =>
    go_enter Tryd.func76, Tryd.ntmps76
    go_wp2_with (first | (go_at_call 71; with_reducible refine (H0.out _).mono ?_; rintro e w' ⟨rfl, rfl⟩))
    refine bodyPost_ret (results_pair rfl _ _ (w.heap.size + 1) _ _ _ _ _ _ _ _ _ rfl (new2_1 w _ _)) rfl ⟨rfl, ?_⟩
    repeat (with_reducible refine bset ?_ (by simp) _)
    exact balloc (balloc (Below.refl _ _) _) _
  cases b1
  case false =>
    go_enter Tryd.func76, Tryd.ntmps76
    go_wp2_with (first | (go_at_call 71; with_reducible refine (H0.out _).mono ?_; rintro e w' ⟨rfl, rfl⟩) | (go_at_call 71; with_reducible refine (H1.out _).mono ?_; rintro e w' ⟨rfl, rfl⟩))
    refine bodyPost_ret (results_pair rfl _ _ (w.heap.size + 1) _ _ _ _ _ _ _ _ _ rfl (new2_1 w _ _)) rfl ⟨rfl, ?_⟩
    repeat (with_reducible refine bset ?_ (by simp) _)
    exact balloc (balloc (Below.refl _ _) _) _
  cases b2
  case false =>
    go_enter Tryd.func76, Tryd.ntmps76
    go_wp2_with (first | (go_at_call 71; with_reducible refine (H0.out _).mono ?_; rintro e w' ⟨rfl, rfl⟩) | (go_at_call 71; with_reducible refine (H1.out _).mono ?_; rintro e w' ⟨rfl, rfl⟩))
    refine (H2.out _).mono ?_
    rintro e w2 ⟨rfl, hb2⟩
    have HA := Lib.hid (keepB hb2 (new2_0 w _ _))
    have HR := Lib.hid (keepB hb2 (new2_1 w _ _))
    have HB := Lib.hid (bstep (balloc (balloc (Below.refl _ _) _) _) hb2)
    clear hb2
    have c0 := cells_of HA.out 0
    have c1 := cells_of HA.out 1
    have c2 := cells_of HA.out 2
    have c3 := cells_of HA.out 3
    have c4 := cells_of HA.out 4
    have c5 := cells_of HA.out 5
    have c6 := cells_of HA.out 6
    have c7 := cells_of HA.out 7
    have c8 := cells_of HA.out 8
    have d0 := cells_of HR.out 0
    have d1 := cells_of HR.out 1
    have d2 := cells_of HR.out 2
    have d3 := cells_of HR.out 3
    have d4 := cells_of HR.out 4
    have d5 := cells_of HR.out 5
    have d6 := cells_of HR.out 6
    have d7 := cells_of HR.out 7
    have d8 := cells_of HR.out 8
    simp only [List.getElem?_toArray, List.getElem?_cons_succ, List.getElem?_cons_zero] at c0 c1 c2 c3 c4 c5 c6 c7 c8 d0 d1 d2 d3 d4 d5 d6 d7 d8
    have z0 := lt_of_block HR.out
    have fz : ∀ k, w2.frozen? ⟨w.heap.size, k, none⟩ = false := fun k => frees_of HA.out k
    have fr : ∀ k, w2.frozen? ⟨w.heap.size + 1, k, none⟩ = false := fun k => frees_of HR.out k
    go_wp2_with (first | (go_at_call 71; with_reducible refine (H0.out _).mono ?_; rintro e w' ⟨rfl, rfl⟩) | (go_at_call 71; with_reducible refine (H1.out _).mono ?_; rintro e w' ⟨rfl, rfl⟩))
    refine bodyPost_ret (results_pair rfl _ _ (w.heap.size + 1) _ _ _ _ _ _ _ _ _ rfl (nine_blk (blk_oth (blk_oth (blk_oth (blk_oth (blk_oth (HR.out) (by omega) _ _) (by omega) _ _) (by omega) _ _) (by omega) _ _) (by omega) _ _) _ _ _ _ _ _ _ _ _)) rfl ⟨rfl, ?_⟩
    repeat (with_reducible refine bset ?_ (by simp) _)
    exact HB.out
  cases b3
  case false =>
    go_enter Tryd.func76, Tryd.ntmps76
    go_wp2_with (first | (go_at_call 71; with_reducible refine (H0.out _).mono ?_; rintro e w' ⟨rfl, rfl⟩) | (go_at_call 71; with_reducible refine (H1.out _).mono ?_; rintro e w' ⟨rfl, rfl⟩) | (go_at_call 71; with_reducible refine (H3.out _).mono ?_; rintro e w' ⟨rfl, rfl⟩))
    refine (H2.out _).mono ?_
    rintro e w2 ⟨rfl, hb2⟩
    have HA := Lib.hid (keepB hb2 (new2_0 w _ _))
    have HR := Lib.hid (keepB hb2 (new2_1 w _ _))
    have HB := Lib.hid (bstep (balloc (balloc (Below.refl _ _) _) _) hb2)
    clear hb2
    have c0 := cells_of HA.out 0
    have c1 := cells_of HA.out 1
    have c2 := cells_of HA.out 2
    have c3 := cells_of HA.out 3
    have c4 := cells_of HA.out 4
    have c5 := cells_of HA.out 5
    have c6 := cells_of HA.out 6
    have c7 := cells_of HA.out 7
    have c8 := cells_of HA.out 8
    have d0 := cells_of HR.out 0
    have d1 := cells_of HR.out 1
    have d2 := cells_of HR.out 2
    have d3 := cells_of HR.out 3
    have d4 := cells_of HR.out 4
    have d5 := cells_of HR.out 5
    have d6 := cells_of HR.out 6
    have d7 := cells_of HR.out 7
    have d8 := cells_of HR.out 8
    simp only [List.getElem?_toArray, List.getElem?_cons_succ, List.getElem?_cons_zero] at c0 c1 c2 c3 c4 c5 c6 c7 c8 d0 d1 d2 d3 d4 d5 d6 d7 d8
    have z0 := lt_of_block HR.out
    have fz : ∀ k, w2.frozen? ⟨w.heap.size, k, none⟩ = false := fun k => frees_of HA.out k
    have fr : ∀ k, w2.frozen? ⟨w.heap.size + 1, k, none⟩ = false := fun k => frees_of HR.out k
    go_wp2_with (first | (go_at_call 71; with_reducible refine (H0.out _).mono ?_; rintro e w' ⟨rfl, rfl⟩) | (go_at_call 71; with_reducible refine (H1.out _).mono ?_; rintro e w' ⟨rfl, rfl⟩) | (go_at_call 71; with_reducible refine (H3.out _).mono ?_; rintro e w' ⟨rfl, rfl⟩))
    refine bodyPost_ret (results_pair rfl _ _ (w.heap.size + 1) _ _ _ _ _ _ _ _ _ rfl (nine_blk (blk_oth (blk_oth (blk_oth (blk_oth (blk_oth (HR.out) (by omega) _ _) (by omega) _ _) (by omega) _ _) (by omega) _ _) (by omega) _ _) _ _ _ _ _ _ _ _ _)) rfl ⟨rfl, ?_⟩
    repeat (with_reducible refine bset ?_ (by simp) _)
    exact HB.out
  go_enter Tryd.func76, Tryd.ntmps76
  go_wp2_with (first | (go_at_call 71; with_reducible refine (H0.out _).mono ?_; rintro e w' ⟨rfl, rfl⟩) | (go_at_call 71; with_reducible refine (H1.out _).mono ?_; rintro e w' ⟨rfl, rfl⟩) | (go_at_call 71; with_reducible refine (H3.out _).mono ?_; rintro e w' ⟨rfl, rfl⟩))
  refine (H2.out _).mono ?_
  rintro e w2 ⟨rfl, hb2⟩
  have HA := Lib.hid (keepB hb2 (new2_0 w _ _))
  have HR := Lib.hid (keepB hb2 (new2_1 w _ _))
  have HB := Lib.hid (bstep (balloc (balloc (Below.refl _ _) _) _) hb2)
  clear hb2
  have c0 := cells_of HA.out 0
  have c1 := cells_of HA.out 1
  have c2 := cells_of HA.out 2
  have c3 := cells_of HA.out 3
  have c4 := cells_of HA.out 4
  have c5 := cells_of HA.out 5
  have c6 := cells_of HA.out 6
  have c7 := cells_of HA.out 7
  have c8 := cells_of HA.out 8
  have d0 := cells_of HR.out 0
  have d1 := cells_of HR.out 1
  have d2 := cells_of HR.out 2
  have d3 := cells_of HR.out 3
  have d4 := cells_of HR.out 4
  have d5 := cells_of HR.out 5
  have d6 := cells_of HR.out 6
  have d7 := cells_of HR.out 7
  have d8 := cells_of HR.out 8
  simp only [List.getElem?_toArray, List.getElem?_cons_succ, List.getElem?_cons_zero] at c0 c1 c2 c3 c4 c5 c6 c7 c8 d0 d1 d2 d3 d4 d5 d6 d7 d8
  have z0 := lt_of_block HR.out
  have fz : ∀ k, w2.frozen? ⟨w.heap.size, k, none⟩ = false := fun k => frees_of HA.out k
  have fr : ∀ k, w2.frozen? ⟨w.heap.size + 1, k, none⟩ = false := fun k => frees_of HR.out k
  go_wp2_with (first | (go_at_call 71; with_reducible refine (H0.out _).mono ?_; rintro e w' ⟨rfl, rfl⟩) | (go_at_call 71; with_reducible refine (H1.out _).mono ?_; rintro e w' ⟨rfl, rfl⟩) | (go_at_call 71; with_reducible refine (H3.out _).mono ?_; rintro e w' ⟨rfl, rfl⟩))
  refine bodyPost_ret (results_pair rfl _ _ (w.heap.size + 1) _ _ _ _ _ _ _ _ _ rfl (nine_blk (blk_oth (blk_oth (blk_oth (blk_oth (blk_oth (HR.out) (by omega) _ _) (by omega) _ _) (by omega) _ _) (by omega) _ _) (by omega) _ _) _ _ _ _ _ _ _ _ _)) rfl ⟨rfl, ?_⟩
  repeat (with_reducible refine bset ?_ (by simp) _)
  exact HB.out
end Go.Proofs.YtgfodedmcjkmaaaDoor
