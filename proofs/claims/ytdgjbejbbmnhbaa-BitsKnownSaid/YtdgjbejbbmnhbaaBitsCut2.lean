/-
  Walks: Cut and the reference's Cut.
-/
import Derived.Test.YtdgjbejbbmnhbaaBitsCut
namespace Go.Proofs.Ytdgjbejbbmnhbaa
open Go.RowKit Go.Proofs.BitsM
theorem two_set {w : World} {H : Nat} {x y : Value} {t : TypeId} (h : w.heap[H]? = some (.cells #[x, y] t (0, 0))) (a b : Value) :
    ((w.setCell ⟨H, 0, none⟩ a).setCell ⟨H, 1, none⟩ b).cell? ⟨H, 0, none⟩ = some a ∧ ((w.setCell ⟨H, 0, none⟩ a).setCell ⟨H, 1, none⟩ b).cell? ⟨H, 1, none⟩ = some b := by
  have hq := block_setCell (block_setCell h 0 a) 1 b
  exact ⟨cell3 hq 0, cell3 hq 1⟩
def cutOk (s : ByteArray) (n f k : Int) : Bool := validB s n && decide (0 ≤ f) && decide (0 ≤ k) && decide (f ≤ n) && decide (k ≤ n - f)
theorem cutOk_iff {s : ByteArray} {n f k : Int} : cutOk s n f k = true ↔ validB s n = true ∧ 0 ≤ f ∧ 0 ≤ k ∧ f ≤ n ∧ k ≤ n - f := by
  simp [cutOk, and_assoc]
theorem cutBad {s : ByteArray} {n f k : Int} (h : cutOk s n f k = false) : validB s n = false ∨ (validB s n = true ∧ f < 0) ∨ (validB s n = true ∧ 0 ≤ f ∧ k < 0) ∨ (validB s n = true ∧ 0 ≤ f ∧ 0 ≤ k ∧ n < f) ∨ (validB s n = true ∧ 0 ≤ f ∧ 0 ≤ k ∧ f ≤ n ∧ n - f < k) := by
  have h' : ¬ (validB s n = true ∧ 0 ≤ f ∧ 0 ≤ k ∧ f ≤ n ∧ k ≤ n - f) := by rw [← cutOk_iff, h]; simp
  cases hv : validB s n
  · exact .inl rfl
  · simp only [hv, true_and] at h' ⊢; simp; omega
def i64ok (n : Int) : Prop := -9223372036854775808 ≤ n ∧ n ≤ 9223372036854775807
theorem bitsV (s : ByteArray) (n e : Int) : Value.tuple #[.agg #[.string s, .int .i64 n], .int .i64 e] = Value.tuple #[.agg #[.string s, .int .i64 n], .int .i64 e] := rfl
set_option maxHeartbeats 1000000 in
theorem Cut_bad (s : ByteArray) (n f k : Int) (hs : s.size ≤ maxLen) (hn : i64ok n) (hf : i64ok f) (hk : i64ok k) (hc : cutOk s n f k = false) (w : World) :
    Calls Try.prog 21 #[.agg #[.string s, .int .i64 n], .int .i64 f, .int .i64 k] w fun e w' => e = .returned (.tuple #[.agg #[.string ⟨#[]⟩, .int .i64 0], .int .i64 2]) ∧ Below w.heap.size w w' := by
  obtain ⟨n0, n1⟩ := hn
  obtain ⟨f0, f1⟩ := hf
  obtain ⟨k0, k1⟩ := hk
  rcases cutBad hc with h | ⟨h, h2⟩ | ⟨h, h2, h3⟩ | ⟨h, h2, h3, h4⟩ | ⟨h, h2, h3, h4, h5⟩
  all_goals
    clear hc
    go_enter Try.func21, Try.ntmps21
    go_wp2_with fail
    refine (Valid_any _ _ hs n0 n1 _).mono ?_
    rintro e w1 ⟨rfl, hb⟩
    have hc := bcell hb
    have HB := Lib.hid hb
    have HR := Lib.hid ((hb.block (w.heap.size + 1) (by simp)).trans (new2_1 _ _ _))
    clear hb
    go_wp2_with fail
    all_goals (try (exfalso; omega))
    all_goals
      obtain ⟨q0, q1⟩ := two_set HR.out (.string ⟨#[]⟩) (.int .i64 0)
      refine bodyPost_ret (v := .tuple #[.agg #[.string ⟨#[]⟩, .int .i64 0], .int .i64 2]) (by simp [results, Try.results21, go_sem, q0, q1]) rfl ⟨rfl, ?_⟩
      exact ((((below_alloc _ _).alloc (by simp) _).trans (HB.out.mono (by simp; omega))).setCell (by simp) _).setCell (by simp) _
theorem Wr_new (w : World) (base : Nat) (h : base ≤ w.heap.size) : Wr (w.alloc (.cells #[.string ⟨#[]⟩, .int .i64 0, .slice none 0 0] 58)) base w.heap.size ⟨#[]⟩ [] :=
  ⟨_, heap_alloc_new _ _, World.ownsRow_nil _ _ _ _, h⟩
theorem valid_le {s : ByteArray} {n : Int} (h : validB s n = true) : n ≤ 8 * s.size := by
  have := valid_size h; unfold lenB at this; omega
set_option maxHeartbeats 1000000 in
theorem Cut_ok (s : ByteArray) (n : Int) (f k : Nat) (hs : s.size ≤ 1000000) (hn : i64ok n) (hc : cutOk s n f k = true) (w : World) :
    Calls Try.prog 21 #[.agg #[.string s, .int .i64 n], .int .i64 f, .int .i64 k] w fun e w' => e = .returned (.tuple #[.agg #[.string (packS (bitsB s f k)), .int .i64 k], .int .i64 0]) ∧ Below w.heap.size w w' := by
  obtain ⟨n0, n1⟩ := hn
  obtain ⟨h, h2, h3, h4, h5⟩ := cutOk_iff.1 hc
  have h8 := valid_le h
  have hsm : s.size ≤ maxLen := by rw [maxLen_val]; omega
  clear hc
  go_enter Try.func21, Try.ntmps21
  go_wp2_with fail
  refine (Valid_any _ _ hsm n0 n1 _).mono ?_
  rintro e w1 ⟨rfl, hb⟩
  have hc := bcell hb
  have HB := Lib.hid hb
  have HR := Lib.hid ((hb.block (w.heap.size + 1) (by simp)).trans (new2_1 _ _ _))
  have hA := (hb.block w.heap.size (by simp; omega)).trans (new2_0 _ _ _)
  have a0 := cells_later hA 0
  have a1 := cells_later hA 1
  simp only [List.getElem?_toArray, List.getElem?_cons_succ, List.getElem?_cons_zero] at a0 a1
  clear hA
  have hz : w.heap.size + 1 < w1.heap.size := by have := hb.size; simp at this; omega
  clear hb
  go_wp2_with fail
  all_goals (try (exfalso; omega))
  refine (add_any s f k w1.heap.size w1.heap.size ⟨#[]⟩ [] _ (by omega) (by omega) (by simp; omega) (Wr_new _ _ (Nat.le_refl _))).mono ?_
  rintro e w2 ⟨rfl, hW, hb2⟩
  rw [List.nil_append] at hW
  have HR2 := Lib.hid ((hb2.block (w.heap.size + 1) (by omega)).trans ((Below.heap_alloc _ _ _ (by omega)).trans HR.out))
  have HB2 := Lib.hid hb2
  have hz2 : w1.heap.size < w2.heap.size := by have := hb2.size; simp at this; omega
  have HW := Lib.hid hW
  clear hb2 hW hc
  go_wp2_with fail
  refine (done_any _ w1.heap.size _ _ _ (by omega) HW.out).mono ?_
  rintro e w3 ⟨rfl, hb3⟩
  have hR := (hb3.block (w.heap.size + 1) (by omega)).trans HR2.out
  have HB3 := Lib.hid hb3
  have HR3 := Lib.hid hR
  have g0 := cell3 hR 0
  have g1 := cell3 hR 1
  have f0 := free3 hR 0
  have f1 := free3 hR 1
  have hz3 : w2.heap.size ≤ w3.heap.size := hb3.size
  clear hR hb3
  go_wp2_with fail
  obtain ⟨q0, q1⟩ := two_set HR3.out (.string (packS (bitsB s f k))) (.int .i64 k)
  refine bodyPost_ret (v := .tuple #[.agg #[.string (packS (bitsB s f k)), .int .i64 k], .int .i64 0]) (by simp [results, Try.results21, go_sem, q0, q1]) rfl ⟨rfl, ?_⟩
  have b1 : Below w.heap.size w w1 := ((below_alloc _ _).alloc (by simp) _).trans (HB.out.mono (by simp; omega))
  have b2 : Below w.heap.size w w2 := (b1.alloc (by omega) _).trans (HB2.out.mono (by omega))
  have b3 : Below w.heap.size w w3 := b2.trans (HB3.out.mono (by omega))
  exact (b3.setCell (by simp) _).setCell (by simp) _
end Go.Proofs.Ytdgjbejbbmnhbaa
