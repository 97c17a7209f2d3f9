/-
  Walks: the makers of package terms: Int, Nil, Bool, Atom, Tuple.
-/
import Derived.Test.YtgbaelkoblnlhaaPure
import Derived.Test.YtgbaelkoblnlhaaCopy
namespace Go.Proofs.Ytgbaelkoblnlhaa
open Go.RowKit
set_option maxRecDepth 10000 in
set_option maxHeartbeats 4000000 in
theorem pTuple_any (l : TL) (v : Value) (w : World) (A B : Nat) (hm : l.cnt ≤ 1000001) (hsm : l.small 1000000) (hs : RdS w A B l v) (hB : B ≤ w.heap.size) :
    Calls Try.prog 33 #[v] w (NewP (.int .i64 (tupC l)) (resF (tupC l) (kF 7)) (resL (tupC l) l) w) := by
  have HC := Lib.hid fun (W : World) (hb : Below w.heap.size w W) => sum_any l v W A B hm hsm (hs.below hb hB) (Nat.le_trans hB hb.size)
  have HCp := Lib.hid fun (W : World) (hb : Below w.heap.size w W) => (copy_all l.cnt).2 l v W A B (Nat.le_refl _) (by omega) (hs.below hb hB) (Nat.le_trans hB hb.size)
  have hwl := wholeL_le l
  have hll := TL.len_le_cnt l
  obtain ⟨ao, cap, rfl, hcap, hmax, -⟩ := hs
  unfold maxLen at hmax
  unfold SumR sumN at HC
  clear hsm
  by_cases hf : formL l = true
  case neg =>
    have hff : formL l = false := by simpa using hf
    have HT := Lib.hid (show tupC l = 2 by unfold tupC; rw [hff]; rfl)
    rw [hff] at HC
    simp only [Bool.false_eq_true, if_false] at HC
    clear hf hff hwl
    go_enter Try.func33, Try.ntmps33
    go_wp2_with fail
    refine (HC.out _ (below_alloc _ _)).mono ?_
    rintro e w1 ⟨rfl, hb1⟩
    have HR := Lib.hid (keepB hb1 (heap_alloc_new w _))
    have HB := Lib.hid (bstep (below_alloc _ _) hb1)
    have hz1 := HB.out.size
    clear hb1
    have d0 : w1.cell? ⟨w.heap.size, 0, none⟩ = some _ := cells_of HR.out 0
    have d1 : w1.cell? ⟨w.heap.size, 1, none⟩ = some _ := cells_of HR.out 1
    have d2 : w1.cell? ⟨w.heap.size, 2, none⟩ = some _ := cells_of HR.out 2
    have d3 : w1.cell? ⟨w.heap.size, 3, none⟩ = some _ := cells_of HR.out 3
    have d4 : w1.cell? ⟨w.heap.size, 4, none⟩ = some _ := cells_of HR.out 4
    have d5 : w1.cell? ⟨w.heap.size, 5, none⟩ = some _ := cells_of HR.out 5
    have d6 : w1.cell? ⟨w.heap.size, 6, none⟩ = some _ := cells_of HR.out 6
    have d7 : w1.cell? ⟨w.heap.size, 7, none⟩ = some _ := cells_of HR.out 7
    have d8 : w1.cell? ⟨w.heap.size, 8, none⟩ = some _ := cells_of HR.out 8
    have fr : ∀ k, w1.frozen? ⟨w.heap.size, k, none⟩ = false := fun k => frees_of HR.out k
    go_wp2_with fail
    refine bodyPost_ret (results_pair rfl _ _ w.heap.size _ _ _ _ _ _ _ _ _ rfl (nine_blk HR.out _ _ _ _ _ _ _ _ _)) rfl ?_
    unfold NewP
    rw [HT.out]
    refine ⟨none, 0, rfl, NwS.nil _ _ _, ?_⟩
    repeat (with_reducible refine bset ?_ (by simp) _)
    exact HB.out
  have hw2 : wholeL l ≤ 260000260 := Nat.le_trans (Nat.le_trans (Nat.le_add_right _ _) (hwl hf)) (Nat.mul_le_mul_left 260 hm)
  have HTC := Lib.hid (show tupC l = if 255 < l.len ∨ 2000 < wholeL l + 1 then 3 else 0 by unfold tupC; rw [hf]; rfl)
  rw [hf] at HC
  simp only [if_true] at HC
  generalize wholeL l = W at HC hw2 HTC
  clear hf hwl
  by_cases h1 : 255 < l.len
  case pos =>
    have h1' : (255 : Int) < (l.len : Int) := by omega
    have HT := Lib.hid (show tupC l = 3 by rw [HTC.out, if_pos (.inl h1)])
    go_enter Try.func33, Try.ntmps33
    go_wp2_with fail
    refine (HC.out _ (below_alloc _ _)).mono ?_
    rintro e w1 ⟨rfl, hb1⟩
    have HR := Lib.hid (keepB hb1 (heap_alloc_new w _))
    have HB := Lib.hid (bstep (below_alloc _ _) hb1)
    have hz1 := HB.out.size
    clear hb1
    have d0 : w1.cell? ⟨w.heap.size, 0, none⟩ = some _ := cells_of HR.out 0
    have d1 : w1.cell? ⟨w.heap.size, 1, none⟩ = some _ := cells_of HR.out 1
    have d2 : w1.cell? ⟨w.heap.size, 2, none⟩ = some _ := cells_of HR.out 2
    have d3 : w1.cell? ⟨w.heap.size, 3, none⟩ = some _ := cells_of HR.out 3
    have d4 : w1.cell? ⟨w.heap.size, 4, none⟩ = some _ := cells_of HR.out 4
    have d5 : w1.cell? ⟨w.heap.size, 5, none⟩ = some _ := cells_of HR.out 5
    have d6 : w1.cell? ⟨w.heap.size, 6, none⟩ = some _ := cells_of HR.out 6
    have d7 : w1.cell? ⟨w.heap.size, 7, none⟩ = some _ := cells_of HR.out 7
    have d8 : w1.cell? ⟨w.heap.size, 8, none⟩ = some _ := cells_of HR.out 8
    have fr : ∀ k, w1.frozen? ⟨w.heap.size, k, none⟩ = false := fun k => frees_of HR.out k
    go_wp2_with fail
    refine bodyPost_ret (results_pair rfl _ _ w.heap.size _ _ _ _ _ _ _ _ _ rfl (nine_blk HR.out _ _ _ _ _ _ _ _ _)) rfl ?_
    unfold NewP
    rw [HT.out]
    refine ⟨none, 0, rfl, NwS.nil _ _ _, ?_⟩
    repeat (with_reducible refine bset ?_ (by simp) _)
    exact HB.out
  by_cases h2 : 2000 < W + 1
  case pos =>
    have h1' : ¬ (255 : Int) < (l.len : Int) := by omega
    have h2' : (2000 : Int) < (W : Int) + 1 := by omega
    have HT := Lib.hid (show tupC l = 3 by rw [HTC.out, if_pos (.inr h2)])
    go_enter Try.func33, Try.ntmps33
    go_wp2_with fail
    refine (HC.out _ (below_alloc _ _)).mono ?_
    rintro e w1 ⟨rfl, hb1⟩
    have HR := Lib.hid (keepB hb1 (heap_alloc_new w _))
    have HB := Lib.hid (bstep (below_alloc _ _) hb1)
    have hz1 := HB.out.size
    clear hb1
    have d0 : w1.cell? ⟨w.heap.size, 0, none⟩ = some _ := cells_of HR.out 0
    have d1 : w1.cell? ⟨w.heap.size, 1, none⟩ = some _ := cells_of HR.out 1
    have d2 : w1.cell? ⟨w.heap.size, 2, none⟩ = some _ := cells_of HR.out 2
    have d3 : w1.cell? ⟨w.heap.size, 3, none⟩ = some _ := cells_of HR.out 3
    have d4 : w1.cell? ⟨w.heap.size, 4, none⟩ = some _ := cells_of HR.out 4
    have d5 : w1.cell? ⟨w.heap.size, 5, none⟩ = some _ := cells_of HR.out 5
    have d6 : w1.cell? ⟨w.heap.size, 6, none⟩ = some _ := cells_of HR.out 6
    have d7 : w1.cell? ⟨w.heap.size, 7, none⟩ = some _ := cells_of HR.out 7
    have d8 : w1.cell? ⟨w.heap.size, 8, none⟩ = some _ := cells_of HR.out 8
    have fr : ∀ k, w1.frozen? ⟨w.heap.size, k, none⟩ = false := fun k => frees_of HR.out k
    go_wp2_with fail
    refine bodyPost_ret (results_pair rfl _ _ w.heap.size _ _ _ _ _ _ _ _ _ rfl (nine_blk HR.out _ _ _ _ _ _ _ _ _)) rfl ?_
    unfold NewP
    rw [HT.out]
    refine ⟨none, 0, rfl, NwS.nil _ _ _, ?_⟩
    repeat (with_reducible refine bset ?_ (by simp) _)
    exact HB.out
  case neg =>
    have h1' : ¬ (255 : Int) < (l.len : Int) := by omega
    have h2' : (W : Int) + 1 ≤ 2000 := by omega
    have HT := Lib.hid (show tupC l = 0 by rw [HTC.out, if_neg (by omega)])
    have h2a : (W : Int) < 2000 := by omega
    clear h1 h2 hw2 h2' HTC
    go_enter Try.func33, Try.ntmps33
    go_wp2_with fail
    refine (HC.out _ (below_alloc _ _)).mono ?_
    rintro e w1 ⟨rfl, hb1⟩
    have HR1 := Lib.hid (keepB hb1 (heap_alloc_new w _))
    have HB1 := Lib.hid (bstep (below_alloc _ _) hb1)
    have hz1 := hb1.size
    simp at hz1
    clear hb1
    go_wp2_with fail
    refine (HCp.out _ HB1.out).mono ?_
    rintro e w2 h2
    obtain ⟨he, hn, hb2⟩ := h2.nws
    subst he
    have HR := Lib.hid (keepB hb2 HR1.out)
    have HB := Lib.hid (bstep HB1.out hb2)
    have HN := Lib.hid hn
    have hz2 := hb2.size
    clear hb2 h2 hn HR1 HB1
    have d0 : w2.cell? ⟨w.heap.size, 0, none⟩ = some _ := cells_of HR.out 0
    have d1 : w2.cell? ⟨w.heap.size, 1, none⟩ = some _ := cells_of HR.out 1
    have d2 : w2.cell? ⟨w.heap.size, 2, none⟩ = some _ := cells_of HR.out 2
    have d3 : w2.cell? ⟨w.heap.size, 3, none⟩ = some _ := cells_of HR.out 3
    have d4 : w2.cell? ⟨w.heap.size, 4, none⟩ = some _ := cells_of HR.out 4
    have d5 : w2.cell? ⟨w.heap.size, 5, none⟩ = some _ := cells_of HR.out 5
    have d6 : w2.cell? ⟨w.heap.size, 6, none⟩ = some _ := cells_of HR.out 6
    have d7 : w2.cell? ⟨w.heap.size, 7, none⟩ = some _ := cells_of HR.out 7
    have d8 : w2.cell? ⟨w.heap.size, 8, none⟩ = some _ := cells_of HR.out 8
    have fr : ∀ k, w2.frozen? ⟨w.heap.size, k, none⟩ = false := fun k => frees_of HR.out k
    go_wp2_with fail
    refine bodyPost_ret (results_pair rfl _ _ w.heap.size _ _ _ _ _ _ _ _ _ rfl (nine_blk HR.out _ _ _ _ _ _ _ _ _)) rfl ?_
    unfold NewP
    rw [HT.out]
    refine ⟨_, _, rfl, ?_, ?_⟩
    · refine (HN.out.keep fun k hk _ => ?_).wide (by omega) (by simp)
      repeat (rw [Below.heap_setCell _ _ _ _ (by simp only []; omega)])
    · repeat (with_reducible refine bset ?_ (by simp) _)
      exact HB.out
theorem pInt_any (n : Int) (w : World) : Calls Try.prog 32 #[.int .i64 n] w fun e w' => e = .returned (.agg #[.int .i64 (intF n).k, .int .i64 (intF n).i, .int .i64 (intF n).g, .string (intF n).nm, .string (intF n).fn, .int .i64 (intF n).ar, .slice none 0 0, .string (intF n).bs, .int .i64 (intF n).n]) ∧ Below w.heap.size w w' := by
  go_enter Try.func32, Try.ntmps32
  go_wp2_with fail
  exact bodyPost_ret (results_one rfl _ _ w.heap.size _ _ _ _ _ _ _ _ _ rfl (heap_alloc_new _ _)) rfl ⟨rfl, below_alloc _ _⟩
theorem pNil_any  (w : World) : Calls Try.prog 35 #[] w fun e w' => e = .returned (.agg #[.int .i64 (kF 8).k, .int .i64 (kF 8).i, .int .i64 (kF 8).g, .string (kF 8).nm, .string (kF 8).fn, .int .i64 (kF 8).ar, .slice none 0 0, .string (kF 8).bs, .int .i64 (kF 8).n]) ∧ Below w.heap.size w w' := by
  go_enter Try.func35, Try.ntmps35
  go_wp2_with fail
  exact bodyPost_ret (results_one rfl _ _ w.heap.size _ _ _ _ _ _ _ _ _ rfl (heap_alloc_new _ _)) rfl ⟨rfl, below_alloc _ _⟩
theorem pBoolT_any (w : World) : Calls Try.prog 41 #[.bool true] w fun e w' => e = .returned (.agg #[.int .i64 (atomF ⟨#[116, 114, 117, 101]⟩).k, .int .i64 (atomF ⟨#[116, 114, 117, 101]⟩).i, .int .i64 (atomF ⟨#[116, 114, 117, 101]⟩).g, .string (atomF ⟨#[116, 114, 117, 101]⟩).nm, .string (atomF ⟨#[116, 114, 117, 101]⟩).fn, .int .i64 (atomF ⟨#[116, 114, 117, 101]⟩).ar, .slice none 0 0, .string (atomF ⟨#[116, 114, 117, 101]⟩).bs, .int .i64 (atomF ⟨#[116, 114, 117, 101]⟩).n]) ∧ Below w.heap.size w w' := by
  go_enter Try.func41, Try.ntmps41
  go_wp2_with fail
  exact bodyPost_ret (results_one rfl _ _ w.heap.size _ _ _ _ _ _ _ _ _ rfl (heap_alloc_new _ _)) rfl ⟨rfl, below_alloc _ _⟩
theorem pBoolF_any (w : World) : Calls Try.prog 41 #[.bool false] w fun e w' => e = .returned (.agg #[.int .i64 (atomF ⟨#[102, 97, 108, 115, 101]⟩).k, .int .i64 (atomF ⟨#[102, 97, 108, 115, 101]⟩).i, .int .i64 (atomF ⟨#[102, 97, 108, 115, 101]⟩).g, .string (atomF ⟨#[102, 97, 108, 115, 101]⟩).nm, .string (atomF ⟨#[102, 97, 108, 115, 101]⟩).fn, .int .i64 (atomF ⟨#[102, 97, 108, 115, 101]⟩).ar, .slice none 0 0, .string (atomF ⟨#[102, 97, 108, 115, 101]⟩).bs, .int .i64 (atomF ⟨#[102, 97, 108, 115, 101]⟩).n]) ∧ Below w.heap.size w w' := by
  go_enter Try.func41, Try.ntmps41
  go_wp2_with fail
  exact bodyPost_ret (results_one rfl _ _ w.heap.size _ _ _ _ _ _ _ _ _ rfl (heap_alloc_new _ _)) rfl ⟨rfl, below_alloc _ _⟩
/-- Atom: a valid name makes an atom -/
def atC (s : ByteArray) : Int := if nameB s then 0 else 2
set_option maxHeartbeats 2000000 in
theorem pAtom_any (s : ByteArray) (hs : s.size ≤ maxLen) (w : World) : Calls Try.prog 37 #[.string s] w fun e w' => e = .returned (.tuple #[.agg #[.int .i64 (resF (atC s) (atomF s)).k, .int .i64 (resF (atC s) (atomF s)).i, .int .i64 (resF (atC s) (atomF s)).g, .string (resF (atC s) (atomF s)).nm, .string (resF (atC s) (atomF s)).fn, .int .i64 (resF (atC s) (atomF s)).ar, .slice none 0 0, .string (resF (atC s) (atomF s)).bs, .int .i64 (resF (atC s) (atomF s)).n], .int .i64 (atC s)]) ∧ Below w.heap.size w w' := by
  have H0 := Lib.hid fun W => Valid_any s hs W
  unfold atC
  generalize nameB s = b at H0 ⊢
  clear hs
  cases b
  all_goals
    go_enter Try.func37, Try.ntmps37
    go_wp2_with fail
    refine (H0.out _).mono ?_
    rintro e w1 ⟨rfl, hb1⟩
    have HR := Lib.hid (keepB hb1 (heap_alloc_new w _))
    have HB := Lib.hid (bstep (below_alloc _ _) hb1)
    clear hb1
    have d0 : w1.cell? ⟨w.heap.size, 0, none⟩ = some _ := cells_of HR.out 0
    have d1 : w1.cell? ⟨w.heap.size, 1, none⟩ = some _ := cells_of HR.out 1
    have d2 : w1.cell? ⟨w.heap.size, 2, none⟩ = some _ := cells_of HR.out 2
    have d3 : w1.cell? ⟨w.heap.size, 3, none⟩ = some _ := cells_of HR.out 3
    have d4 : w1.cell? ⟨w.heap.size, 4, none⟩ = some _ := cells_of HR.out 4
    have d5 : w1.cell? ⟨w.heap.size, 5, none⟩ = some _ := cells_of HR.out 5
    have d6 : w1.cell? ⟨w.heap.size, 6, none⟩ = some _ := cells_of HR.out 6
    have d7 : w1.cell? ⟨w.heap.size, 7, none⟩ = some _ := cells_of HR.out 7
    have d8 : w1.cell? ⟨w.heap.size, 8, none⟩ = some _ := cells_of HR.out 8
    have fr : ∀ k, w1.frozen? ⟨w.heap.size, k, none⟩ = false := fun k => frees_of HR.out k
    go_wp2_with fail
    refine bodyPost_ret (results_pair rfl _ _ w.heap.size _ _ _ _ _ _ _ _ _ rfl (nine_blk HR.out _ _ _ _ _ _ _ _ _)) rfl ?_
    refine ⟨rfl, ?_⟩
    repeat (with_reducible refine bset ?_ (by simp) _)
    exact HB.out
end Go.Proofs.Ytgbaelkoblnlhaa
