/-
  Walks: List and Cons of package terms.
-/
import Derived.Test.YtgbaelkoblnlhaaMake
namespace Go.Proofs.Ytgbaelkoblnlhaa
open Go.RowKit
/-- sum of one term that lies in a block of its own -/
theorem sum_one (f : Fd) (it : TL) (ao : Option Addr) (cap : Nat) (w : World) (A B : Nat) (ht : tame f it) (hs : RdS w A B it (.slice ao it.len cap)) (hB : B ≤ w.heap.size) :
    ∀ (W : World) (g : Nat), Below w.heap.size w W → W.heap[g]? = some (.cells #[.int .i64 f.k, .int .i64 f.i, .int .i64 f.g, .string f.nm, .string f.fn, .int .i64 f.ar, .slice ao it.len cap, .string f.bs, .int .i64 f.n] 24 (0, 0)) → B ≤ g → Calls Try.prog 73 #[.slice (some ⟨g, 0, none⟩) 1 1] W fun e w' => e = .returned (.tuple #[.int .i64 (if formT f it then ((wholeT f it : Nat) : Int) else 0), .bool (formT f it)]) ∧ Below W.heap.size W w' := by
  intro W g hb hg hBg
  obtain ⟨hc1, hsm1⟩ := tame_one ht
  have h := sum_any (.cons f it .nil) (.slice (some ⟨g, 0, none⟩) 1 1) W 0 (g + 1) hc1 hsm1 (RdS.one ((hs.below hb hB).less (Nat.zero_le _)) hg (Nat.zero_le _) hBg (by decide) (by decide)) (lt_of_block hg)
  unfold SumR at h
  rw [sumN_one, form_one] at h
  exact h
theorem own_news {w : World} {C g n cap : Nat} {xs : List Value} (h : w.ownsRow C 24 9 (.slice (some ⟨g, 0, none⟩) n cap) n xs) : ∀ j u, xs[j]? = some u → w.cell? ((⟨g, 0, none⟩ : Addr).add j) = some u := fun j u hu => h.cells rfl j u hu
theorem NwR.one {w : World} {A B : Nat} : ∀ {l : TL} {xs : List Value}, NwR w A B l xs → xs.length = l.len * 9 → ∀ u ∈ xs, u.oneCell' = true
  | .nil, xs, _, hl, u, hu => by
    have : xs = [] := List.eq_nil_of_length_eq_zero (by simpa [TL.len] using hl)
    rw [this] at hu; cases hu
  | .cons f it r, xs, h, hl, u, hu => by
    obtain ⟨iv, rest, rfl, hi, hr⟩ := NwR.uncons h
    rw [List.length_append, cells_len] at hl
    simp only [TL.len] at hl
    rw [List.mem_append] at hu
    rcases hu with hu | hu
    · obtain ⟨ai, ci, rfl⟩ := hi.slice
      exact cells_one f ai it.len ci u hu
    · exact NwR.one hr (by omega) u hu
theorem own_one {w : World} {A B C g n cap : Nat} {l : TL} {xs : List Value} (h : NwR w A B l xs) (ho : w.ownsRow C 24 9 (.slice (some ⟨g, 0, none⟩) n cap) l.len xs) : ∀ u ∈ xs, u.oneCell' = true := NwR.one h ho.1
theorem grown_below5 {w w4 w5 : World} {g B : Nat} (h : Below B w w4) (hg : w4.grownBy w5 (some g)) (hB : B ≤ w4.heap.size) (hg2 : B ≤ g) : Below B w w5 := h.grown hg hB fun k hk => by cases hk; exact hg2
theorem NwR.grown {w w' : World} {A B g : Nat} {l : TL} {xs : List Value} (h : NwR w A B l xs) (hg : w.grownBy w' (some g)) (hB : B ≤ w.heap.size) (hA : g < A ∨ B ≤ g) : NwR w' A B l xs := NwR.keep (fun k h1 h2 => hg.block k (by omega) (by simp; omega)) _ _ h
theorem nine_cells {w : World} {g : Nat} {a0 a1 a2 a3 a4 a5 a6 a7 a8 : Value} {t : TypeId} (h : w.heap[g]? = some (.cells #[a0, a1, a2, a3, a4, a5, a6, a7, a8] t (0, 0))) :
    w.cell? ⟨g, 0, none⟩ = some a0 ∧ w.cell? ⟨g, 1, none⟩ = some a1 ∧ w.cell? ⟨g, 2, none⟩ = some a2 ∧ w.cell? ⟨g, 3, none⟩ = some a3 ∧ w.cell? ⟨g, 4, none⟩ = some a4 ∧ w.cell? ⟨g, 5, none⟩ = some a5 ∧ w.cell? ⟨g, 6, none⟩ = some a6 ∧ w.cell? ⟨g, 7, none⟩ = some a7 ∧ w.cell? ⟨g, 8, none⟩ = some a8 ∧ ∀ k, w.frozen? ⟨g, k, none⟩ = false :=
  ⟨cells_of h 0, cells_of h 1, cells_of h 2, cells_of h 3, cells_of h 4, cells_of h 5, cells_of h 6, cells_of h 7, cells_of h 8, frees_of h⟩
theorem lstC_bad {l : TL} {f : Fd} {it : TL} (h : formL l = false ∨ formT f it = false) : lstC l f it = 2 := by
  unfold lstC
  rcases h with h | h
  · rw [h, Bool.false_and]; rfl
  · rw [h, Bool.and_false]; rfl
theorem lstC_ok {l : TL} {f : Fd} {it : TL} (h : formL l = true) (h2 : formT f it = true) : lstC l f it = if 2000 < wholeL l + wholeT f it + l.len then 3 else 0 := by
  unfold lstC; rw [h, h2]; rfl
set_option maxRecDepth 100000 in
set_option maxHeartbeats 20000000 in
theorem pList_any (l : TL) (v : Value) (f : Fd) (it : TL) (iv : Value) (w : World) (A B A' B' : Nat) (hm : l.cnt ≤ 1000000) (hsm : l.small 1000000) (ht : tame f it) (hs : RdS w A B l v) (hs2 : RdS w A' B' it iv) (hB : B ≤ w.heap.size) (hB' : B' ≤ w.heap.size) :
    Calls Try.prog 34 #[v, .agg #[.int .i64 f.k, .int .i64 f.i, .int .i64 f.g, .string f.nm, .string f.fn, .int .i64 f.ar, iv, .string f.bs, .int .i64 f.n]] w (NewP (.int .i64 (lstC l f it)) (resF (lstC l f it) (lstF l f)) (resL (lstC l f it) (lstL l f it)) w) := by
  obtain ⟨ao, cap, rfl, hcap, hmax, -⟩ := id hs
  obtain ⟨ao', cap', rfl, hcap', hmax', -⟩ := id hs2
  have HC1 := Lib.hid fun (W : World) (hb : Below w.heap.size w W) => sum_any l _ W A B (Nat.le_trans hm (by decide)) hsm (hs.below hb hB) (Nat.le_trans hB hb.size)
  have HC2 := Lib.hid fun (W : World) (g : Nat) (hb : Below w.heap.size w W) (hg : W.heap[g]? = some (.cells #[.int .i64 f.k, .int .i64 f.i, .int .i64 f.g, .string f.nm, .string f.fn, .int .i64 f.ar, .slice ao' it.len cap', .string f.bs, .int .i64 f.n] 24 (0, 0))) (hBg : w.heap.size ≤ g) => sum_one f it ao' cap' w A' B' ht hs2 hB' W g hb hg (by omega)
  have HCp := Lib.hid fun (W : World) (hb : Below w.heap.size w W) => (copy_all l.cnt).2 l _ W A B (Nat.le_refl _) (by omega) (hs.below hb hB) (Nat.le_trans hB hb.size)
  have HCt := Lib.hid fun (W : World) (hb : Below w.heap.size w W) => (copy_all it.cnt).1 f it (.agg #[.int .i64 f.k, .int .i64 f.i, .int .i64 f.g, .string f.nm, .string f.fn, .int .i64 f.ar, .slice ao' it.len cap', .string f.bs, .int .i64 f.n]) W A' B' (Nat.le_refl _) (by have := ht.1; omega) ⟨_, rfl, hs2.below hb hB'⟩ (Nat.le_trans hB' hb.size)
  have HCi := Lib.hid fun (W : World) (hb : Below w.heap.size w W) => (copy_all it.cnt).2 it _ W A' B' (Nat.le_refl _) (by have := ht.1; omega) (hs2.below hb hB') (Nat.le_trans hB' hb.size)
  have HTm := Lib.hid ht
  have hll := TL.len_le_cnt l
  have hln : l.len ≤ 1000000 := by omega
  have hli := TL.len_le_cnt it
  have hln2 : it.len ≤ 1000000 := by have := ht.1; omega
  unfold maxLen at hmax hmax'
  unfold SumR sumN at HC1
  clear hsm ht hs hs2
  by_cases hf : formL l = true
  case neg =>
    have hff : formL l = false := by simpa using hf
    have HT := Lib.hid (lstC_bad (f := f) (it := it) (.inl hff))
    rw [hff] at HC1
    simp only [Bool.false_eq_true, if_false] at HC1
    clear hf hff
    go_enter Try.func34, Try.ntmps34
    go_wp2_with fail
    refine (HC1.out _ (balloc (below_alloc _ _) _)).mono ?_
    rintro e w1 ⟨rfl, hb1⟩
    have HA1 := Lib.hid (keepB hb1 (new2_0 w _ _))
    have HR1 := Lib.hid (keepB hb1 (new2_1 w _ _))
    have HB1 := Lib.hid (bstep (balloc (below_alloc _ _) _) hb1)
    have hz1 : w.heap.size + 2 ≤ w1.heap.size := by have := hb1.size; simp at this; omega
    clear hb1
    have b0 : w1.cell? ⟨w.heap.size, 0, none⟩ = some _ := cells_of HA1.out 0
    have b1 : w1.cell? ⟨w.heap.size, 1, none⟩ = some _ := cells_of HA1.out 1
    have b2 : w1.cell? ⟨w.heap.size, 2, none⟩ = some _ := cells_of HA1.out 2
    have b3 : w1.cell? ⟨w.heap.size, 3, none⟩ = some _ := cells_of HA1.out 3
    have b4 : w1.cell? ⟨w.heap.size, 4, none⟩ = some _ := cells_of HA1.out 4
    have b5 : w1.cell? ⟨w.heap.size, 5, none⟩ = some _ := cells_of HA1.out 5
    have b6 : w1.cell? ⟨w.heap.size, 6, none⟩ = some _ := cells_of HA1.out 6
    have b7 : w1.cell? ⟨w.heap.size, 7, none⟩ = some _ := cells_of HA1.out 7
    have b8 : w1.cell? ⟨w.heap.size, 8, none⟩ = some _ := cells_of HA1.out 8
    go_wp2_with fail
    refine (HC2.out _ _ (balloc HB1.out _) (heap_alloc_new _ _) (by omega)).mono ?_
    rintro e w2 ⟨rfl, hb2⟩
    have HA2 := Lib.hid (keepB hb2 (heap_after HA1.out _))
    have HR2 := Lib.hid (keepB hb2 (heap_after HR1.out _))
    have HB2 := Lib.hid (bstep (balloc HB1.out _) hb2)
    have hz2 : w.heap.size + 3 ≤ w2.heap.size := by have := hb2.size; simp at this; omega
    clear hb2 HA1 HR1 HB1 b0 b1 b2 b3 b4 b5 b6 b7 b8
    have d0 : w2.cell? ⟨w.heap.size + 1, 0, none⟩ = some _ := cells_of HR2.out 0
    have d1 : w2.cell? ⟨w.heap.size + 1, 1, none⟩ = some _ := cells_of HR2.out 1
    have d2 : w2.cell? ⟨w.heap.size + 1, 2, none⟩ = some _ := cells_of HR2.out 2
    have d3 : w2.cell? ⟨w.heap.size + 1, 3, none⟩ = some _ := cells_of HR2.out 3
    have d4 : w2.cell? ⟨w.heap.size + 1, 4, none⟩ = some _ := cells_of HR2.out 4
    have d5 : w2.cell? ⟨w.heap.size + 1, 5, none⟩ = some _ := cells_of HR2.out 5
    have d6 : w2.cell? ⟨w.heap.size + 1, 6, none⟩ = some _ := cells_of HR2.out 6
    have d7 : w2.cell? ⟨w.heap.size + 1, 7, none⟩ = some _ := cells_of HR2.out 7
    have d8 : w2.cell? ⟨w.heap.size + 1, 8, none⟩ = some _ := cells_of HR2.out 8
    have fr : ∀ k, w2.frozen? ⟨w.heap.size + 1, k, none⟩ = false := fun k => frees_of HR2.out k
    go_wp2_with fail
    all_goals
      refine bodyPost_ret (results_pair rfl _ _ (w.heap.size + 1) _ _ _ _ _ _ _ _ _ rfl (nine_blk HR2.out _ _ _ _ _ _ _ _ _)) rfl ?_
      unfold NewP
      rw [HT.out]
      refine ⟨none, 0, rfl, NwS.nil _ _ _, ?_⟩
      repeat (with_reducible refine bset ?_ (by simp) _)
      exact HB2.out
  by_cases hg : formT f it = true
  case neg =>
    have hgf : formT f it = false := by simpa using hg
    have HT := Lib.hid (lstC_bad (l := l) (.inr hgf))
    rw [hf] at HC1
    rw [hgf] at HC2
    simp only [Bool.false_eq_true, if_false, if_true] at HC1 HC2
    clear hf hg hgf
    go_enter Try.func34, Try.ntmps34
    go_wp2_with fail
    refine (HC1.out _ (balloc (below_alloc _ _) _)).mono ?_
    rintro e w1 ⟨rfl, hb1⟩
    have HA1 := Lib.hid (keepB hb1 (new2_0 w _ _))
    have HR1 := Lib.hid (keepB hb1 (new2_1 w _ _))
    have HB1 := Lib.hid (bstep (balloc (below_alloc _ _) _) hb1)
    have hz1 : w.heap.size + 2 ≤ w1.heap.size := by have := hb1.size; simp at this; omega
    clear hb1
    have b0 : w1.cell? ⟨w.heap.size, 0, none⟩ = some _ := cells_of HA1.out 0
    have b1 : w1.cell? ⟨w.heap.size, 1, none⟩ = some _ := cells_of HA1.out 1
    have b2 : w1.cell? ⟨w.heap.size, 2, none⟩ = some _ := cells_of HA1.out 2
    have b3 : w1.cell? ⟨w.heap.size, 3, none⟩ = some _ := cells_of HA1.out 3
    have b4 : w1.cell? ⟨w.heap.size, 4, none⟩ = some _ := cells_of HA1.out 4
    have b5 : w1.cell? ⟨w.heap.size, 5, none⟩ = some _ := cells_of HA1.out 5
    have b6 : w1.cell? ⟨w.heap.size, 6, none⟩ = some _ := cells_of HA1.out 6
    have b7 : w1.cell? ⟨w.heap.size, 7, none⟩ = some _ := cells_of HA1.out 7
    have b8 : w1.cell? ⟨w.heap.size, 8, none⟩ = some _ := cells_of HA1.out 8
    go_wp2_with fail
    refine (HC2.out _ _ (balloc HB1.out _) (heap_alloc_new _ _) (by omega)).mono ?_
    rintro e w2 ⟨rfl, hb2⟩
    have HA2 := Lib.hid (keepB hb2 (heap_after HA1.out _))
    have HR2 := Lib.hid (keepB hb2 (heap_after HR1.out _))
    have HB2 := Lib.hid (bstep (balloc HB1.out _) hb2)
    have hz2 : w.heap.size + 3 ≤ w2.heap.size := by have := hb2.size; simp at this; omega
    clear hb2 HA1 HR1 HB1 b0 b1 b2 b3 b4 b5 b6 b7 b8
    have d0 : w2.cell? ⟨w.heap.size + 1, 0, none⟩ = some _ := cells_of HR2.out 0
    have d1 : w2.cell? ⟨w.heap.size + 1, 1, none⟩ = some _ := cells_of HR2.out 1
    have d2 : w2.cell? ⟨w.heap.size + 1, 2, none⟩ = some _ := cells_of HR2.out 2
    have d3 : w2.cell? ⟨w.heap.size + 1, 3, none⟩ = some _ := cells_of HR2.out 3
    have d4 : w2.cell? ⟨w.heap.size + 1, 4, none⟩ = some _ := cells_of HR2.out 4
    have d5 : w2.cell? ⟨w.heap.size + 1, 5, none⟩ = some _ := cells_of HR2.out 5
    have d6 : w2.cell? ⟨w.heap.size + 1, 6, none⟩ = some _ := cells_of HR2.out 6
    have d7 : w2.cell? ⟨w.heap.size + 1, 7, none⟩ = some _ := cells_of HR2.out 7
    have d8 : w2.cell? ⟨w.heap.size + 1, 8, none⟩ = some _ := cells_of HR2.out 8
    have fr : ∀ k, w2.frozen? ⟨w.heap.size + 1, k, none⟩ = false := fun k => frees_of HR2.out k
    go_wp2_with fail
    all_goals
      refine bodyPost_ret (results_pair rfl _ _ (w.heap.size + 1) _ _ _ _ _ _ _ _ _ rfl (nine_blk HR2.out _ _ _ _ _ _ _ _ _)) rfl ?_
      unfold NewP
      rw [HT.out]
      refine ⟨none, 0, rfl, NwS.nil _ _ _, ?_⟩
      repeat (with_reducible refine bset ?_ (by simp) _)
      exact HB2.out
  have hw1 : wholeL l ≤ 260000260 := Nat.le_trans (Nat.le_trans (Nat.le_add_right _ _) (wholeL_le l hf)) (Nat.le_trans (Nat.mul_le_mul_left 260 hm) (by decide))
  have hw2 : wholeT f it ≤ 260000260 := Nat.le_trans (wholeT_le hg) (Nat.mul_le_mul_left 260 (Nat.succ_le_succ HTm.out.1))
  have HTC := Lib.hid (lstC_ok hf hg)
  rw [hf] at HC1
  rw [hg] at HC2
  simp only [if_true] at HC1 HC2
  generalize wholeL l = W1 at HC1 hw1 HTC
  generalize wholeT f it = W2 at HC2 hw2 HTC
  clear hf hg
  by_cases h1 : 2000 < W1 + W2 + l.len
  case pos =>
    have h1' : (2000 : Int) < (W1 : Int) + (W2 : Int) + (l.len : Int) := by omega
    have HT := Lib.hid (show lstC l f it = 3 by rw [HTC.out, if_pos h1])
    clear h1
    go_enter Try.func34, Try.ntmps34
    go_wp2_with fail
    refine (HC1.out _ (balloc (below_alloc _ _) _)).mono ?_
    rintro e w1 ⟨rfl, hb1⟩
    have HA1 := Lib.hid (keepB hb1 (new2_0 w _ _))
    have HR1 := Lib.hid (keepB hb1 (new2_1 w _ _))
    have HB1 := Lib.hid (bstep (balloc (below_alloc _ _) _) hb1)
    have hz1 : w.heap.size + 2 ≤ w1.heap.size := by have := hb1.size; simp at this; omega
    clear hb1
    have b0 : w1.cell? ⟨w.heap.size, 0, none⟩ = some _ := cells_of HA1.out 0
    have b1 : w1.cell? ⟨w.heap.size, 1, none⟩ = some _ := cells_of HA1.out 1
    have b2 : w1.cell? ⟨w.heap.size, 2, none⟩ = some _ := cells_of HA1.out 2
    have b3 : w1.cell? ⟨w.heap.size, 3, none⟩ = some _ := cells_of HA1.out 3
    have b4 : w1.cell? ⟨w.heap.size, 4, none⟩ = some _ := cells_of HA1.out 4
    have b5 : w1.cell? ⟨w.heap.size, 5, none⟩ = some _ := cells_of HA1.out 5
    have b6 : w1.cell? ⟨w.heap.size, 6, none⟩ = some _ := cells_of HA1.out 6
    have b7 : w1.cell? ⟨w.heap.size, 7, none⟩ = some _ := cells_of HA1.out 7
    have b8 : w1.cell? ⟨w.heap.size, 8, none⟩ = some _ := cells_of HA1.out 8
    go_wp2_with fail
    refine (HC2.out _ _ (balloc HB1.out _) (heap_alloc_new _ _) (by omega)).mono ?_
    rintro e w2 ⟨rfl, hb2⟩
    have HA2 := Lib.hid (keepB hb2 (heap_after HA1.out _))
    have HR2 := Lib.hid (keepB hb2 (heap_after HR1.out _))
    have HB2 := Lib.hid (bstep (balloc HB1.out _) hb2)
    have hz2 : w.heap.size + 3 ≤ w2.heap.size := by have := hb2.size; simp at this; omega
    clear hb2 HA1 HR1 HB1 b0 b1 b2 b3 b4 b5 b6 b7 b8
    have d0 : w2.cell? ⟨w.heap.size + 1, 0, none⟩ = some _ := cells_of HR2.out 0
    have d1 : w2.cell? ⟨w.heap.size + 1, 1, none⟩ = some _ := cells_of HR2.out 1
    have d2 : w2.cell? ⟨w.heap.size + 1, 2, none⟩ = some _ := cells_of HR2.out 2
    have d3 : w2.cell? ⟨w.heap.size + 1, 3, none⟩ = some _ := cells_of HR2.out 3
    have d4 : w2.cell? ⟨w.heap.size + 1, 4, none⟩ = some _ := cells_of HR2.out 4
    have d5 : w2.cell? ⟨w.heap.size + 1, 5, none⟩ = some _ := cells_of HR2.out 5
    have d6 : w2.cell? ⟨w.heap.size + 1, 6, none⟩ = some _ := cells_of HR2.out 6
    have d7 : w2.cell? ⟨w.heap.size + 1, 7, none⟩ = some _ := cells_of HR2.out 7
    have d8 : w2.cell? ⟨w.heap.size + 1, 8, none⟩ = some _ := cells_of HR2.out 8
    have fr : ∀ k, w2.frozen? ⟨w.heap.size + 1, k, none⟩ = false := fun k => frees_of HR2.out k
    go_wp2_with fail
    all_goals
      refine bodyPost_ret (results_pair rfl _ _ (w.heap.size + 1) _ _ _ _ _ _ _ _ _ rfl (nine_blk HR2.out _ _ _ _ _ _ _ _ _)) rfl ?_
      unfold NewP
      rw [HT.out]
      refine ⟨none, 0, rfl, NwS.nil _ _ _, ?_⟩
      repeat (with_reducible refine bset ?_ (by simp) _)
      exact HB2.out
  have h1' : (W1 : Int) + (W2 : Int) + (l.len : Int) ≤ 2000 := by omega
  have HT := Lib.hid (show lstC l f it = 0 by rw [HTC.out, if_neg h1])
  clear h1 HTC
  by_cases h0 : l.len = 0
  case pos =>
    have h0' : ((l.len : Int) == 0) = true := by rw [h0]; rfl
    have HF1 := Lib.hid (show lstF l f = f by unfold lstF; rw [if_pos h0])
    have HF2 := Lib.hid (show lstL l f it = it by unfold lstL; rw [if_pos h0])
    clear h0
    go_enter Try.func34, Try.ntmps34
    go_wp2_with fail
    refine (HC1.out _ (balloc (below_alloc _ _) _)).mono ?_
    rintro e w1 ⟨rfl, hb1⟩
    have HA1 := Lib.hid (keepB hb1 (new2_0 w _ _))
    have HR1 := Lib.hid (keepB hb1 (new2_1 w _ _))
    have HB1 := Lib.hid (bstep (balloc (below_alloc _ _) _) hb1)
    have hz1 : w.heap.size + 2 ≤ w1.heap.size := by have := hb1.size; simp at this; omega
    clear hb1
    have b0 : w1.cell? ⟨w.heap.size, 0, none⟩ = some _ := cells_of HA1.out 0
    have b1 : w1.cell? ⟨w.heap.size, 1, none⟩ = some _ := cells_of HA1.out 1
    have b2 : w1.cell? ⟨w.heap.size, 2, none⟩ = some _ := cells_of HA1.out 2
    have b3 : w1.cell? ⟨w.heap.size, 3, none⟩ = some _ := cells_of HA1.out 3
    have b4 : w1.cell? ⟨w.heap.size, 4, none⟩ = some _ := cells_of HA1.out 4
    have b5 : w1.cell? ⟨w.heap.size, 5, none⟩ = some _ := cells_of HA1.out 5
    have b6 : w1.cell? ⟨w.heap.size, 6, none⟩ = some _ := cells_of HA1.out 6
    have b7 : w1.cell? ⟨w.heap.size, 7, none⟩ = some _ := cells_of HA1.out 7
    have b8 : w1.cell? ⟨w.heap.size, 8, none⟩ = some _ := cells_of HA1.out 8
    go_wp2_with fail
    refine (HC2.out _ _ (balloc HB1.out _) (heap_alloc_new _ _) (by omega)).mono ?_
    rintro e w2 ⟨rfl, hb2⟩
    have HA2 := Lib.hid (keepB hb2 (heap_after HA1.out _))
    have HR2 := Lib.hid (keepB hb2 (heap_after HR1.out _))
    have HB2 := Lib.hid (bstep (balloc HB1.out _) hb2)
    have hz2 : w.heap.size + 3 ≤ w2.heap.size := by have := hb2.size; simp at this; omega
    clear hb2 HA1 HR1 HB1 b0 b1 b2 b3 b4 b5 b6 b7 b8
    have b0 : w2.cell? ⟨w.heap.size, 0, none⟩ = some _ := cells_of HA2.out 0
    have b1 : w2.cell? ⟨w.heap.size, 1, none⟩ = some _ := cells_of HA2.out 1
    have b2 : w2.cell? ⟨w.heap.size, 2, none⟩ = some _ := cells_of HA2.out 2
    have b3 : w2.cell? ⟨w.heap.size, 3, none⟩ = some _ := cells_of HA2.out 3
    have b4 : w2.cell? ⟨w.heap.size, 4, none⟩ = some _ := cells_of HA2.out 4
    have b5 : w2.cell? ⟨w.heap.size, 5, none⟩ = some _ := cells_of HA2.out 5
    have b6 : w2.cell? ⟨w.heap.size, 6, none⟩ = some _ := cells_of HA2.out 6
    have b7 : w2.cell? ⟨w.heap.size, 7, none⟩ = some _ := cells_of HA2.out 7
    have b8 : w2.cell? ⟨w.heap.size, 8, none⟩ = some _ := cells_of HA2.out 8
    go_wp2_with fail
    refine (HCt.out _ HB2.out).mono ?_
    rintro e w3 ⟨ai3, ci3, rfl, hn3, hb3⟩
    have HR := Lib.hid (keepB hb3 HR2.out)
    have HB := Lib.hid (bstep HB2.out hb3)
    have HN := Lib.hid hn3
    have hz3 := hb3.size
    clear hb3 hn3 HA2 HR2 HB2 b0 b1 b2 b3 b4 b5 b6 b7 b8
    have d0 : w3.cell? ⟨w.heap.size + 1, 0, none⟩ = some _ := cells_of HR.out 0
    have d1 : w3.cell? ⟨w.heap.size + 1, 1, none⟩ = some _ := cells_of HR.out 1
    have d2 : w3.cell? ⟨w.heap.size + 1, 2, none⟩ = some _ := cells_of HR.out 2
    have d3 : w3.cell? ⟨w.heap.size + 1, 3, none⟩ = some _ := cells_of HR.out 3
    have d4 : w3.cell? ⟨w.heap.size + 1, 4, none⟩ = some _ := cells_of HR.out 4
    have d5 : w3.cell? ⟨w.heap.size + 1, 5, none⟩ = some _ := cells_of HR.out 5
    have d6 : w3.cell? ⟨w.heap.size + 1, 6, none⟩ = some _ := cells_of HR.out 6
    have d7 : w3.cell? ⟨w.heap.size + 1, 7, none⟩ = some _ := cells_of HR.out 7
    have d8 : w3.cell? ⟨w.heap.size + 1, 8, none⟩ = some _ := cells_of HR.out 8
    have fr : ∀ k, w3.frozen? ⟨w.heap.size + 1, k, none⟩ = false := fun k => frees_of HR.out k
    go_wp2_with fail
    refine bodyPost_ret (results_pair rfl _ _ (w.heap.size + 1) _ _ _ _ _ _ _ _ _ rfl (nine_blk HR.out _ _ _ _ _ _ _ _ _)) rfl ?_
    unfold NewP
    rw [HT.out, HF1.out, HF2.out]
    refine ⟨_, _, rfl, ?_, ?_⟩
    · refine (HN.out.keep fun k hk _ => ?_).wide (by omega) (by simp)
      repeat (rw [Below.heap_setCell _ _ _ _ (by simp only []; omega)])
    · repeat (with_reducible refine bset ?_ (by simp) _)
      exact HB.out
  have h0' : ((l.len : Int) == 0) = false := by simp; omega
  have hl1 : 1 ≤ l.len := by omega
  have HF1 := Lib.hid (show lstF l f = kF 9 by unfold lstF; rw [if_neg h0])
  have HF2 := Lib.hid (show lstL l f it = l.app (tailL f it) by unfold lstL; rw [if_neg h0])
  clear h0
  by_cases h9 : f.k = 9
  case pos =>
    have x9 : (f.k == 9) = true := by rw [h9]; rfl
    have HF3 := Lib.hid (show tailL f it = it by unfold tailL; rw [if_pos h9])
    clear h9
    go_enter Try.func34, Try.ntmps34
    go_wp2_with fail
    refine (HC1.out _ (balloc (below_alloc _ _) _)).mono ?_
    rintro e w1 ⟨rfl, hb1⟩
    have HA1 := Lib.hid (keepB hb1 (new2_0 w _ _))
    have HR1 := Lib.hid (keepB hb1 (new2_1 w _ _))
    have HB1 := Lib.hid (bstep (balloc (below_alloc _ _) _) hb1)
    have hz1 : w.heap.size + 2 ≤ w1.heap.size := by have := hb1.size; simp at this; omega
    clear hb1
    have b0 : w1.cell? ⟨w.heap.size, 0, none⟩ = some _ := cells_of HA1.out 0
    have b1 : w1.cell? ⟨w.heap.size, 1, none⟩ = some _ := cells_of HA1.out 1
    have b2 : w1.cell? ⟨w.heap.size, 2, none⟩ = some _ := cells_of HA1.out 2
    have b3 : w1.cell? ⟨w.heap.size, 3, none⟩ = some _ := cells_of HA1.out 3
    have b4 : w1.cell? ⟨w.heap.size, 4, none⟩ = some _ := cells_of HA1.out 4
    have b5 : w1.cell? ⟨w.heap.size, 5, none⟩ = some _ := cells_of HA1.out 5
    have b6 : w1.cell? ⟨w.heap.size, 6, none⟩ = some _ := cells_of HA1.out 6
    have b7 : w1.cell? ⟨w.heap.size, 7, none⟩ = some _ := cells_of HA1.out 7
    have b8 : w1.cell? ⟨w.heap.size, 8, none⟩ = some _ := cells_of HA1.out 8
    go_wp2_with fail
    refine (HC2.out _ _ (balloc HB1.out _) (heap_alloc_new _ _) (by omega)).mono ?_
    rintro e w2 ⟨rfl, hb2⟩
    have HA2 := Lib.hid (keepB hb2 (heap_after HA1.out _))
    have HR2 := Lib.hid (keepB hb2 (heap_after HR1.out _))
    have HB2 := Lib.hid (bstep (balloc HB1.out _) hb2)
    have hz2 : w.heap.size + 3 ≤ w2.heap.size := by have := hb2.size; simp at this; omega
    clear hb2 HA1 HR1 HB1 b0 b1 b2 b3 b4 b5 b6 b7 b8
    have b0 : w2.cell? ⟨w.heap.size, 0, none⟩ = some _ := cells_of HA2.out 0
    have b1 : w2.cell? ⟨w.heap.size, 1, none⟩ = some _ := cells_of HA2.out 1
    have b2 : w2.cell? ⟨w.heap.size, 2, none⟩ = some _ := cells_of HA2.out 2
    have b3 : w2.cell? ⟨w.heap.size, 3, none⟩ = some _ := cells_of HA2.out 3
    have b4 : w2.cell? ⟨w.heap.size, 4, none⟩ = some _ := cells_of HA2.out 4
    have b5 : w2.cell? ⟨w.heap.size, 5, none⟩ = some _ := cells_of HA2.out 5
    have b6 : w2.cell? ⟨w.heap.size, 6, none⟩ = some _ := cells_of HA2.out 6
    have b7 : w2.cell? ⟨w.heap.size, 7, none⟩ = some _ := cells_of HA2.out 7
    have b8 : w2.cell? ⟨w.heap.size, 8, none⟩ = some _ := cells_of HA2.out 8
    go_wp2_with fail
    refine (HCp.out _ HB2.out).mono ?_
    rintro e w3 ⟨xs, rfl, ho3, hn3, hb3⟩
    have HA3 := Lib.hid (keepB hb3 HA2.out)
    have HR3 := Lib.hid (keepB hb3 HR2.out)
    have HB3 := Lib.hid (bstep HB2.out hb3)
    have HO3 := Lib.hid ho3
    have HN3 := Lib.hid hn3
    have hz3 := hb3.size
    have hz3b : w2.heap.size < w3.heap.size := (ho3.lt _ rfl).2
    clear hb3 hn3 ho3 HA2 HR2 HB2 b0 b1 b2 b3 b4 b5 b6 b7 b8
    have b0 : w3.cell? ⟨w.heap.size, 0, none⟩ = some _ := cells_of HA3.out 0
    have b1 : w3.cell? ⟨w.heap.size, 1, none⟩ = some _ := cells_of HA3.out 1
    have b2 : w3.cell? ⟨w.heap.size, 2, none⟩ = some _ := cells_of HA3.out 2
    have b3 : w3.cell? ⟨w.heap.size, 3, none⟩ = some _ := cells_of HA3.out 3
    have b4 : w3.cell? ⟨w.heap.size, 4, none⟩ = some _ := cells_of HA3.out 4
    have b5 : w3.cell? ⟨w.heap.size, 5, none⟩ = some _ := cells_of HA3.out 5
    have b6 : w3.cell? ⟨w.heap.size, 6, none⟩ = some _ := cells_of HA3.out 6
    have b7 : w3.cell? ⟨w.heap.size, 7, none⟩ = some _ := cells_of HA3.out 7
    have b8 : w3.cell? ⟨w.heap.size, 8, none⟩ = some _ := cells_of HA3.out 8
    go_wp2_with fail
    refine (HCi.out _ HB3.out).mono ?_
    rintro e w4 ⟨ys, rfl, ho4, hn4, hb4⟩
    have HR4 := Lib.hid (keepB hb4 HR3.out)
    have HB4 := Lib.hid (bstep HB3.out hb4)
    have HO4 := Lib.hid (own_below HO3.out hb4 (Nat.le_refl _))
    have HN4a := Lib.hid (HN3.out.below hb4 (Nat.le_refl _))
    have HN4b := Lib.hid hn4
    have HY := Lib.hid ho4
    have hz4 := hb4.size
    clear hb4 hn4 ho4 HA3 HR3 HB3 HO3 HN3 b0 b1 b2 b3 b4 b5 b6 b7 b8
    go_wp2_with (at_builtin; refine wpList_append_row rfl (.tmp 50) (.tmp 53) rfl w2.heap.size w2.heap.size l.len l.len xs rfl HO4.out (some ⟨w3.heap.size, 0, none⟩) it.len it.len ys rfl (by intro h; cases h) HY.out.1 (by intro ad had; injection had with had; subst had; exact own_news HY.out) (own_one HN4b.out HY.out) (by omega) (by omega) ?_; intro g5 cap5 w5 hown5 hgrow5; have HR5 := Lib.hid (gr_keep hgrow5 HR4.out (by omega)); have HB5 := Lib.hid (grown_below5 HB4.out hgrow5 (by omega) (by omega)); have HO5 := Lib.hid hown5; have hz5 := hgrow5.size; have HN5a := Lib.hid (HN4a.out.grown hgrow5 (by omega) (by omega)); have HN5b := Lib.hid (HN4b.out.grown hgrow5 (by omega) (by omega)); have HL := Lib.hid HO4.out.1; clear hown5 hgrow5; obtain ⟨d0, d1, d2, d3, d4, d5, d6, d7, d8, fr⟩ := nine_cells HR5.out)
    refine bodyPost_ret (results_pair rfl _ _ (w.heap.size + 1) _ _ _ _ _ _ _ _ _ rfl (nine_blk HR5.out _ _ _ _ _ _ _ _ _)) rfl ?_

    unfold NewP
    rw [HT.out, HF1.out, HF2.out, HF3.out]
    have hlen := TL.len_app l it
    refine ⟨some ⟨g5, 0, none⟩, cap5, ?_, ?_, ?_⟩
    · rw [show (resL 0 (l.app it)) = l.app it from rfl, hlen]; rfl
    · refine NwS.wide (A := w2.heap.size) (B := w5.heap.size) ?_ (by omega) (by simp)
      have hN := NwS.of_owns HO5.out (l := l.app it) (by rw [hlen] <;> rfl) (Nat.le_refl _) (Nat.le_refl _) (NwR.app l it xs _ (NwR.wide (by omega) (by omega) _ _ HN5a.out) HL.out (NwR.wide (by omega) (by omega) _ _ HN5b.out))
      rw [show (resL 0 (l.app it)) = l.app it from rfl, hlen]
      refine hN.keep fun k hk _ => ?_
      repeat (rw [Below.heap_setCell _ _ _ _ (by simp only []; omega)])
    · repeat (with_reducible refine bset ?_ (by simp) _)
      exact HB5.out
  case neg =>
    have x9 : (f.k == 9) = false := by simpa using h9
    have HF3 := Lib.hid (show tailL f it = .cons f it .nil by unfold tailL; rw [if_neg h9])
    clear h9
    go_enter Try.func34, Try.ntmps34
    go_wp2_with fail
    refine (HC1.out _ (balloc (below_alloc _ _) _)).mono ?_
    rintro e w1 ⟨rfl, hb1⟩
    have HA1 := Lib.hid (keepB hb1 (new2_0 w _ _))
    have HR1 := Lib.hid (keepB hb1 (new2_1 w _ _))
    have HB1 := Lib.hid (bstep (balloc (below_alloc _ _) _) hb1)
    have hz1 : w.heap.size + 2 ≤ w1.heap.size := by have := hb1.size; simp at this; omega
    clear hb1
    have b0 : w1.cell? ⟨w.heap.size, 0, none⟩ = some _ := cells_of HA1.out 0
    have b1 : w1.cell? ⟨w.heap.size, 1, none⟩ = some _ := cells_of HA1.out 1
    have b2 : w1.cell? ⟨w.heap.size, 2, none⟩ = some _ := cells_of HA1.out 2
    have b3 : w1.cell? ⟨w.heap.size, 3, none⟩ = some _ := cells_of HA1.out 3
    have b4 : w1.cell? ⟨w.heap.size, 4, none⟩ = some _ := cells_of HA1.out 4
    have b5 : w1.cell? ⟨w.heap.size, 5, none⟩ = some _ := cells_of HA1.out 5
    have b6 : w1.cell? ⟨w.heap.size, 6, none⟩ = some _ := cells_of HA1.out 6
    have b7 : w1.cell? ⟨w.heap.size, 7, none⟩ = some _ := cells_of HA1.out 7
    have b8 : w1.cell? ⟨w.heap.size, 8, none⟩ = some _ := cells_of HA1.out 8
    go_wp2_with fail
    refine (HC2.out _ _ (balloc HB1.out _) (heap_alloc_new _ _) (by omega)).mono ?_
    rintro e w2 ⟨rfl, hb2⟩
    have HA2 := Lib.hid (keepB hb2 (heap_after HA1.out _))
    have HR2 := Lib.hid (keepB hb2 (heap_after HR1.out _))
    have HB2 := Lib.hid (bstep (balloc HB1.out _) hb2)
    have hz2 : w.heap.size + 3 ≤ w2.heap.size := by have := hb2.size; simp at this; omega
    clear hb2 HA1 HR1 HB1 b0 b1 b2 b3 b4 b5 b6 b7 b8
    have b0 : w2.cell? ⟨w.heap.size, 0, none⟩ = some _ := cells_of HA2.out 0
    have b1 : w2.cell? ⟨w.heap.size, 1, none⟩ = some _ := cells_of HA2.out 1
    have b2 : w2.cell? ⟨w.heap.size, 2, none⟩ = some _ := cells_of HA2.out 2
    have b3 : w2.cell? ⟨w.heap.size, 3, none⟩ = some _ := cells_of HA2.out 3
    have b4 : w2.cell? ⟨w.heap.size, 4, none⟩ = some _ := cells_of HA2.out 4
    have b5 : w2.cell? ⟨w.heap.size, 5, none⟩ = some _ := cells_of HA2.out 5
    have b6 : w2.cell? ⟨w.heap.size, 6, none⟩ = some _ := cells_of HA2.out 6
    have b7 : w2.cell? ⟨w.heap.size, 7, none⟩ = some _ := cells_of HA2.out 7
    have b8 : w2.cell? ⟨w.heap.size, 8, none⟩ = some _ := cells_of HA2.out 8
    go_wp2_with fail
    refine (HCp.out _ HB2.out).mono ?_
    rintro e w3 ⟨xs, rfl, ho3, hn3, hb3⟩
    have HA3 := Lib.hid (keepB hb3 HA2.out)
    have HR3 := Lib.hid (keepB hb3 HR2.out)
    have HB3 := Lib.hid (bstep HB2.out hb3)
    have HO3 := Lib.hid ho3
    have HN3 := Lib.hid hn3
    have hz3 := hb3.size
    have hz3b : w2.heap.size < w3.heap.size := (ho3.lt _ rfl).2
    clear hb3 hn3 ho3 HA2 HR2 HB2 b0 b1 b2 b3 b4 b5 b6 b7 b8
    have b0 : w3.cell? ⟨w.heap.size, 0, none⟩ = some _ := cells_of HA3.out 0
    have b1 : w3.cell? ⟨w.heap.size, 1, none⟩ = some _ := cells_of HA3.out 1
    have b2 : w3.cell? ⟨w.heap.size, 2, none⟩ = some _ := cells_of HA3.out 2
    have b3 : w3.cell? ⟨w.heap.size, 3, none⟩ = some _ := cells_of HA3.out 3
    have b4 : w3.cell? ⟨w.heap.size, 4, none⟩ = some _ := cells_of HA3.out 4
    have b5 : w3.cell? ⟨w.heap.size, 5, none⟩ = some _ := cells_of HA3.out 5
    have b6 : w3.cell? ⟨w.heap.size, 6, none⟩ = some _ := cells_of HA3.out 6
    have b7 : w3.cell? ⟨w.heap.size, 7, none⟩ = some _ := cells_of HA3.out 7
    have b8 : w3.cell? ⟨w.heap.size, 8, none⟩ = some _ := cells_of HA3.out 8
    go_wp2_with fail
    refine (HCt.out _ HB3.out).mono ?_
    rintro e w4 ⟨ai4, ci4, rfl, hn4, hb4⟩
    have HR4 := Lib.hid (keepB hb4 HR3.out)
    have HB4 := Lib.hid (bstep HB3.out hb4)
    have HO4 := Lib.hid (own_below HO3.out hb4 (Nat.le_refl _))
    have HN4a := Lib.hid (HN3.out.below hb4 (Nat.le_refl _))
    have HN4b := Lib.hid (show NwR w4 w3.heap.size w4.heap.size (.cons f it .nil) (f.cells (.slice ai4 it.len ci4) ++ []) from NwR.cons hn4 trivial)
    have hz4 := hb4.size
    clear hb4 hn4 HA3 HR3 HB3 HO3 HN3 b0 b1 b2 b3 b4 b5 b6 b7 b8
    go_wp2_with (at_builtin; refine wpList_append_row rfl (.tmp 55) (.tmp 58) rfl w2.heap.size w2.heap.size l.len l.len xs rfl (HO4.out.alloc _) (some ⟨w4.heap.size, 0, none⟩) 1 1 [.int .i64 f.k, .int .i64 f.i, .int .i64 f.g, .string f.nm, .string f.fn, .int .i64 f.ar, .slice ai4 it.len ci4, .string f.bs, .int .i64 f.n] rfl (by intro h; cases h) rfl (by intro ad had; injection had with had; subst had; exact news_one (heap_alloc_new _ _)) (cells_one f ai4 it.len ci4) (by omega) (by simp; omega) ?_; intro g5 cap5 w5 hown5 hgrow5; have HR5 := Lib.hid (gr_keep hgrow5 (heap_after HR4.out _) (by omega)); have HB5 := Lib.hid (grown_below5 (balloc HB4.out _) hgrow5 (by simp; omega) (by omega)); have HO5 := Lib.hid hown5; have hz5 : w4.heap.size + 1 ≤ w5.heap.size := (by have := hgrow5.size; simp at this; exact this); have HN5a := Lib.hid ((HN4a.out.below (below_alloc w4 _) (by omega)).grown hgrow5 (by simp; omega) (by omega)); have HN5b := Lib.hid ((HN4b.out.below (below_alloc w4 _) (by omega)).grown hgrow5 (by simp) (by omega)); have HL := Lib.hid HO4.out.1; clear hown5 hgrow5; obtain ⟨d0, d1, d2, d3, d4, d5, d6, d7, d8, fr⟩ := nine_cells HR5.out)
    refine bodyPost_ret (results_pair rfl _ _ (w.heap.size + 1) _ _ _ _ _ _ _ _ _ rfl (nine_blk HR5.out _ _ _ _ _ _ _ _ _)) rfl ?_

    unfold NewP
    rw [HT.out, HF1.out, HF2.out, HF3.out]
    have hlen := TL.len_app l (.cons f it .nil)
    refine ⟨some ⟨g5, 0, none⟩, cap5, ?_, ?_, ?_⟩
    · rw [show (resL 0 (l.app (.cons f it .nil))) = l.app (.cons f it .nil) from rfl, hlen]; rfl
    · refine NwS.wide (A := w2.heap.size) (B := w5.heap.size) ?_ (by omega) (by simp)
      have hN := NwS.of_owns HO5.out (l := l.app (.cons f it .nil)) (by rw [hlen] <;> rfl) (Nat.le_refl _) (Nat.le_refl _) (NwR.app l (.cons f it .nil) xs _ (NwR.wide (by omega) (by omega) _ _ HN5a.out) HL.out (NwR.wide (by omega) (by omega) _ _ HN5b.out))
      rw [show (resL 0 (l.app (.cons f it .nil))) = l.app (.cons f it .nil) from rfl, hlen]
      refine hN.keep fun k hk _ => ?_
      repeat (rw [Below.heap_setCell _ _ _ _ (by simp only []; omega)])
    · repeat (with_reducible refine bset ?_ (by simp) _)
      exact HB5.out
end Go.Proofs.Ytgbaelkoblnlhaa
