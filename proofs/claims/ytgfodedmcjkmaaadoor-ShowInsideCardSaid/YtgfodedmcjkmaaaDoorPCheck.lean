/-
  Walks: Check, Valid and Size of package terms, of any size.
-/
import Derived.Test.YtgfodedmcjkmaaaDoorSum
namespace Go.Proofs.YtgfodedmcjkmaaaDoor
open Go.RowKit
/-- one term in a block of its own, as a row -/
theorem RdS.one {w : World} {A B g : Nat} {f : Fd} {it : TL} {ai : Option Addr} {ci cap : Nat} (h : RdS w A B it (.slice ai it.len ci)) (hg : w.heap[g]? = some (.cells #[.int .i64 f.k, .int .i64 f.i, .int .i64 f.g, .string f.nm, .string f.fn, .int .i64 f.ar, .slice ai it.len ci, .string f.bs, .int .i64 f.n] 24 (0, 0))) (hA : A ≤ g) (hB : B ≤ g) (hc : 1 ≤ cap) (hx : cap ≤ maxLen) : RdS w A (g + 1) (.cons f it .nil) (.slice (some ⟨g, 0, none⟩) 1 cap) := by
  obtain ⟨ao, c, e, h1, h2, h3⟩ := h
  injection e with e1 e2 e3
  subst e1 e3
  refine ⟨some ⟨g, 0, none⟩, cap, rfl, hc, hx, fun _ => ⟨g, 0, rfl, ⟨hA, Nat.lt_succ_self _, ⟨ai, ci, fun j v hj => ?_, h1, h2, fun hn => ?_⟩, trivial⟩⟩⟩
  · rw [cells_of hg, Nat.zero_add]; exact (show (f.cells (.slice ai it.len ci)).toArray[j]? = some v by rw [List.getElem?_toArray]; exact hj)
  · obtain ⟨b, o, e, hr⟩ := h3 hn
    exact ⟨b, o, e, Rd.more (by omega) _ _ _ hr⟩
theorem tame_one {f : Fd} {it : TL} (h : tame f it) : (TL.cons f it .nil).cnt ≤ 1000001 ∧ (TL.cons f it .nil).small 1000000 := by
  obtain ⟨h1, h2, h3, h4, h5⟩ := h
  exact ⟨by simp only [TL.cnt]; omega, h2, h3, h4, h5, trivial⟩
theorem form_one (f : Fd) (it : TL) : formL (.cons f it .nil) = formT f it := by rw [formL_cons]; exact Bool.and_true _
theorem sumN_one (f : Fd) (it : TL) : sumN (.cons f it .nil) = if formT f it then ((wholeT f it : Nat) : Int) else 0 := by
  unfold sumN
  rw [form_one, wholeL_cons]; rfl
set_option maxHeartbeats 4000000 in
theorem pCheck_any (f : Fd) (it : TL) (iv : Value) (w : World) (A B : Nat) (ht : tame f it) (hs : RdS w A B it iv) (hB : B ≤ w.heap.size) :
    Calls Tryd.prog 31 #[.agg #[.int .i64 f.k, .int .i64 f.i, .int .i64 f.g, .string f.nm, .string f.fn, .int .i64 f.ar, iv, .string f.bs, .int .i64 f.n]] w fun e w' => e = .returned (.int .i64 (checkF f it)) ∧ Below w.heap.size w w' := by
  obtain ⟨hc1, hsm1⟩ := tame_one ht
  obtain ⟨ao, cap, rfl, -, -, -⟩ := id hs
  have HC := Lib.hid fun (W : World) (hb : Below w.heap.size w W) (hg : W.heap[w.heap.size + 1]? = some (.cells #[.int .i64 f.k, .int .i64 f.i, .int .i64 f.g, .string f.nm, .string f.fn, .int .i64 f.ar, .slice ao it.len cap, .string f.bs, .int .i64 f.n] 24 (0, 0))) =>
    sum_any (.cons f it .nil) (.slice (some ⟨w.heap.size + 1, 0, none⟩) 1 1) W 0 (w.heap.size + 1 + 1) hc1 hsm1 (RdS.one ((hs.below hb hB).less (Nat.zero_le _)) hg (Nat.zero_le _) (by omega) (by decide) (by decide)) (lt_of_block hg)
  unfold SumR at HC
  rw [sumN_one, form_one] at HC
  have HTm := Lib.hid ht
  clear hc1 hsm1 ht hs
  by_cases hf : formT f it = true
  case neg =>
    have hff : formT f it = false := by simpa using hf
    have HF := Lib.hid (show checkF f it = 2 by unfold checkF; rw [hff]; rfl)
    rw [hff] at HC
    clear hf hff
    go_enter Tryd.func31, Tryd.ntmps31
    go_wp2_with fail
    refine (HC.out _ (balloc (below_alloc _ _) _) (new2_1 _ _ _)).mono ?_
    rintro e w1 ⟨rfl, hb1⟩
    have HB1 := Lib.hid (bstep (balloc (below_alloc _ _) _) hb1)
    clear hb1
    go_wp2_with fail
    go_ret
    exact ⟨by rw [HF.out]; rfl, HB1.out⟩
  have hwt2 : wholeT f it ≤ 260000260 := Nat.le_trans (wholeT_le hf) (Nat.mul_le_mul_left 260 (Nat.succ_le_succ HTm.out.1))
  have HF := Lib.hid (show checkF f it = if 2000 < wholeT f it then 3 else 0 by unfold checkF; rw [hf]; rfl)
  rw [hf] at HC
  generalize wholeT f it = W at HC hwt2 HF
  simp only [if_true] at HC
  clear hf
  by_cases hw : 2000 < W
  case pos =>
    have hw' : (2000 : Int) < (W : Int) := by omega
    go_enter Tryd.func31, Tryd.ntmps31
    go_wp2_with fail
    refine (HC.out _ (balloc (below_alloc _ _) _) (new2_1 _ _ _)).mono ?_
    rintro e w1 ⟨rfl, hb1⟩
    have HB1 := Lib.hid (bstep (balloc (below_alloc _ _) _) hb1)
    clear hb1
    go_wp2_with fail
    go_ret
    exact ⟨by rw [HF.out, if_pos hw]; rfl, HB1.out⟩
  case neg =>
    have hw' : ¬ (2000 : Int) < (W : Int) := by omega
    go_enter Tryd.func31, Tryd.ntmps31
    go_wp2_with fail
    refine (HC.out _ (balloc (below_alloc _ _) _) (new2_1 _ _ _)).mono ?_
    rintro e w1 ⟨rfl, hb1⟩
    have HB1 := Lib.hid (bstep (balloc (below_alloc _ _) _) hb1)
    clear hb1
    go_wp2_with fail
    go_ret
    exact ⟨by rw [HF.out, if_neg hw]; rfl, HB1.out⟩
set_option maxHeartbeats 4000000 in
theorem pValid_any (f : Fd) (it : TL) (iv : Value) (w : World) (A B : Nat) (ht : tame f it) (hs : RdS w A B it iv) (hB : B ≤ w.heap.size) :
    Calls Tryd.prog 20 #[.agg #[.int .i64 f.k, .int .i64 f.i, .int .i64 f.g, .string f.nm, .string f.fn, .int .i64 f.ar, iv, .string f.bs, .int .i64 f.n]] w fun e w' => e = .returned (.bool (validF f it)) ∧ Below w.heap.size w w' := by
  have H1 := Lib.hid fun W (hb : Below w.heap.size w W) => pCheck_any f it iv W A B ht (hs.below hb hB) (Nat.le_trans hB hb.size)
  obtain ⟨ao, cap, rfl, -, -, -⟩ := hs
  have HF := Lib.hid (check_valid f it)
  generalize checkF f it = c at H1 HF
  go_enter Tryd.func20, Tryd.ntmps20
  go_wp2_with fail
  refine (H1.out _ (below_alloc _ _)).mono ?_
  rintro e w1 ⟨rfl, hb1⟩
  go_wp2_with fail
  go_ret
  exact ⟨ret_bool HF.out, bstep (below_alloc _ _) hb1⟩
end Go.Proofs.YtgfodedmcjkmaaaDoor
