/-
  Walks: Term, FromTerm, and Same of two terms without items.
-/
import Derived.Test.YtdgjbejbbmnhbaaBitsWriter
namespace Go.Proofs.Ytdgjbejbbmnhbaa
open Go.RowKit Go.Proofs.BitsM
theorem blk_set {w : World} {B : Nat} {c : List Value} {t : TypeId} (h : w.heap[B]? = some (.cells c.toArray t (0, 0))) (k : Nat) (u : Value) : (w.setCell ⟨B, k, none⟩ u).heap[B]? = some (.cells (c.set k u).toArray t (0, 0)) := by
  rw [block_setCell h]; simp
theorem nine_blk {w : World} {H : Nat} {c0 c1 c2 c3 c4 c5 c6 c7 c8 : Value} {t : TypeId} (h : w.heap[H]? = some (.cells [c0, c1, c2, c3, c4, c5, c6, c7, c8].toArray t (0, 0))) (a0 a1 a2 a3 a4 a5 a6 a7 a8 : Value) :
    (((((((((w.setCell ⟨H, 0, none⟩ a0).setCell ⟨H, 1, none⟩ a1).setCell ⟨H, 2, none⟩ a2).setCell ⟨H, 3, none⟩ a3).setCell ⟨H, 4, none⟩ a4).setCell ⟨H, 5, none⟩ a5).setCell ⟨H, 6, none⟩ a6).setCell ⟨H, 7, none⟩ a7).setCell ⟨H, 8, none⟩ a8).heap[H]? = some (.cells [a0, a1, a2, a3, a4, a5, a6, a7, a8].toArray t (0, 0)) :=
  (blk_set (blk_set (blk_set (blk_set (blk_set (blk_set (blk_set (blk_set (blk_set h 0 a0) 1 a1) 2 a2) 3 a3) 4 a4) 5 a5) 6 a6) 7 a7) 8 a8)
theorem nine_set {w : World} {H : Nat} {c0 c1 c2 c3 c4 c5 c6 c7 c8 : Value} {t : TypeId} (h : w.heap[H]? = some (.cells #[c0, c1, c2, c3, c4, c5, c6, c7, c8] t (0, 0))) (a0 a1 a2 a3 a4 a5 a6 a7 a8 : Value) :
    (((((((((w.setCell ⟨H, 0, none⟩ a0).setCell ⟨H, 1, none⟩ a1).setCell ⟨H, 2, none⟩ a2).setCell ⟨H, 3, none⟩ a3).setCell ⟨H, 4, none⟩ a4).setCell ⟨H, 5, none⟩ a5).setCell ⟨H, 6, none⟩ a6).setCell ⟨H, 7, none⟩ a7).setCell ⟨H, 8, none⟩ a8).cell? ⟨H, 0, none⟩ = some a0 ∧ (((((((((w.setCell ⟨H, 0, none⟩ a0).setCell ⟨H, 1, none⟩ a1).setCell ⟨H, 2, none⟩ a2).setCell ⟨H, 3, none⟩ a3).setCell ⟨H, 4, none⟩ a4).setCell ⟨H, 5, none⟩ a5).setCell ⟨H, 6, none⟩ a6).setCell ⟨H, 7, none⟩ a7).setCell ⟨H, 8, none⟩ a8).cell? ⟨H, 1, none⟩ = some a1 ∧ (((((((((w.setCell ⟨H, 0, none⟩ a0).setCell ⟨H, 1, none⟩ a1).setCell ⟨H, 2, none⟩ a2).setCell ⟨H, 3, none⟩ a3).setCell ⟨H, 4, none⟩ a4).setCell ⟨H, 5, none⟩ a5).setCell ⟨H, 6, none⟩ a6).setCell ⟨H, 7, none⟩ a7).setCell ⟨H, 8, none⟩ a8).cell? ⟨H, 2, none⟩ = some a2 ∧ (((((((((w.setCell ⟨H, 0, none⟩ a0).setCell ⟨H, 1, none⟩ a1).setCell ⟨H, 2, none⟩ a2).setCell ⟨H, 3, none⟩ a3).setCell ⟨H, 4, none⟩ a4).setCell ⟨H, 5, none⟩ a5).setCell ⟨H, 6, none⟩ a6).setCell ⟨H, 7, none⟩ a7).setCell ⟨H, 8, none⟩ a8).cell? ⟨H, 3, none⟩ = some a3 ∧ (((((((((w.setCell ⟨H, 0, none⟩ a0).setCell ⟨H, 1, none⟩ a1).setCell ⟨H, 2, none⟩ a2).setCell ⟨H, 3, none⟩ a3).setCell ⟨H, 4, none⟩ a4).setCell ⟨H, 5, none⟩ a5).setCell ⟨H, 6, none⟩ a6).setCell ⟨H, 7, none⟩ a7).setCell ⟨H, 8, none⟩ a8).cell? ⟨H, 4, none⟩ = some a4 ∧ (((((((((w.setCell ⟨H, 0, none⟩ a0).setCell ⟨H, 1, none⟩ a1).setCell ⟨H, 2, none⟩ a2).setCell ⟨H, 3, none⟩ a3).setCell ⟨H, 4, none⟩ a4).setCell ⟨H, 5, none⟩ a5).setCell ⟨H, 6, none⟩ a6).setCell ⟨H, 7, none⟩ a7).setCell ⟨H, 8, none⟩ a8).cell? ⟨H, 5, none⟩ = some a5 ∧ (((((((((w.setCell ⟨H, 0, none⟩ a0).setCell ⟨H, 1, none⟩ a1).setCell ⟨H, 2, none⟩ a2).setCell ⟨H, 3, none⟩ a3).setCell ⟨H, 4, none⟩ a4).setCell ⟨H, 5, none⟩ a5).setCell ⟨H, 6, none⟩ a6).setCell ⟨H, 7, none⟩ a7).setCell ⟨H, 8, none⟩ a8).cell? ⟨H, 6, none⟩ = some a6 ∧ (((((((((w.setCell ⟨H, 0, none⟩ a0).setCell ⟨H, 1, none⟩ a1).setCell ⟨H, 2, none⟩ a2).setCell ⟨H, 3, none⟩ a3).setCell ⟨H, 4, none⟩ a4).setCell ⟨H, 5, none⟩ a5).setCell ⟨H, 6, none⟩ a6).setCell ⟨H, 7, none⟩ a7).setCell ⟨H, 8, none⟩ a8).cell? ⟨H, 7, none⟩ = some a7 ∧ (((((((((w.setCell ⟨H, 0, none⟩ a0).setCell ⟨H, 1, none⟩ a1).setCell ⟨H, 2, none⟩ a2).setCell ⟨H, 3, none⟩ a3).setCell ⟨H, 4, none⟩ a4).setCell ⟨H, 5, none⟩ a5).setCell ⟨H, 6, none⟩ a6).setCell ⟨H, 7, none⟩ a7).setCell ⟨H, 8, none⟩ a8).cell? ⟨H, 8, none⟩ = some a8 := by
  have e := nine_blk h a0 a1 a2 a3 a4 a5 a6 a7 a8
  generalize (((((((((w.setCell ⟨H, 0, none⟩ a0).setCell ⟨H, 1, none⟩ a1).setCell ⟨H, 2, none⟩ a2).setCell ⟨H, 3, none⟩ a3).setCell ⟨H, 4, none⟩ a4).setCell ⟨H, 5, none⟩ a5).setCell ⟨H, 6, none⟩ a6).setCell ⟨H, 7, none⟩ a7).setCell ⟨H, 8, none⟩ a8) = W at e ⊢
  refine ⟨(cell3 e 0).trans rfl, (cell3 e 1).trans rfl, (cell3 e 2).trans rfl, (cell3 e 3).trans rfl, (cell3 e 4).trans rfl, (cell3 e 5).trans rfl, (cell3 e 6).trans rfl, (cell3 e 7).trans rfl, (cell3 e 8).trans rfl⟩
/-- a term by its nine fields -/
def tmV (k i g : Int) (nm fn : ByteArray) (ar : Int) (items : Value) (bs : ByteArray) (n : Int) : Value :=
  .agg #[.int .i64 k, .int .i64 i, .int .i64 g, .string nm, .string fn, .int .i64 ar, items, .string bs, .int .i64 n]
def termOk (s : ByteArray) (n : Int) : Bool := validB s n && decide (n ≤ 16384)
def termV (s : ByteArray) (n : Int) : Value :=
  if termOk s n = true then tmV 10 0 0 ⟨#[]⟩ ⟨#[]⟩ 0 (.slice none 0 0) s n else tmV 0 0 0 ⟨#[]⟩ ⟨#[]⟩ 0 (.slice none 0 0) ⟨#[]⟩ 0
set_option maxHeartbeats 1000000 in
theorem Term_any (s : ByteArray) (n : Int) (hs : s.size ≤ maxLen) (h0 : -9223372036854775808 ≤ n) (h1 : n ≤ 9223372036854775807) (w : World) :
    Calls Try.prog 23 #[.agg #[.string s, .int .i64 n]] w fun e w' => e = .returned (termV s n) ∧ Below w.heap.size w w' := by
  have hV := fun W => Valid_any s n hs h0 h1 W
  have HV := Lib.hid hV
  clear hV
  by_cases hv : validB s n = true
  · by_cases hl : n ≤ 16384
    · have hfin := Lib.hid (show termV s n = tmV 10 0 0 ⟨#[]⟩ ⟨#[]⟩ 0 (.slice none 0 0) s n by unfold termV termOk; simp [hv, hl])
      rw [hv] at HV
      clear hv
      go_enter Try.func23, Try.ntmps23
      go_wp2_with fail
      refine (HV.out _).mono ?_
      rintro e w1 ⟨rfl, hb⟩
      have hc := bcell hb
      have HB := Lib.hid hb
      have HR := Lib.hid ((hb.block (w.heap.size + 1) (by simp)).trans (new2_1 _ _ _))
      clear hb
      go_wp2_with fail
      all_goals (try (exfalso; omega))
      all_goals
        obtain ⟨q0, q1, q2, q3, q4, q5, q6, q7, q8⟩ := nine_set HR.out (.int .i64 10) (.int .i64 0) (.int .i64 0) (.string ⟨#[]⟩) (.string ⟨#[]⟩) (.int .i64 0) (.slice none 0 0) (.string s) (.int .i64 n)
        refine bodyPost_ret (v := .agg #[(.int .i64 10), (.int .i64 0), (.int .i64 0), (.string ⟨#[]⟩), (.string ⟨#[]⟩), (.int .i64 0), (.slice none 0 0), (.string s), (.int .i64 n)]) (by simp [results, Try.results23, go_sem, q0, q1, q2, q3, q4, q5, q6, q7, q8]) rfl ⟨by rw [hfin.out]; rfl, ?_⟩
        exact (((((((((((below_alloc _ _).alloc (by simp) _).trans (HB.out.mono (by simp; omega))).setCell (by simp) _).setCell (by simp) _).setCell (by simp) _).setCell (by simp) _).setCell (by simp) _).setCell (by simp) _).setCell (by simp) _).setCell (by simp) _).setCell (by simp) _
    · have hfin := Lib.hid (show termV s n = tmV 0 0 0 ⟨#[]⟩ ⟨#[]⟩ 0 (.slice none 0 0) ⟨#[]⟩ 0 by unfold termV termOk; simp [hl])
      rw [hv] at HV
      clear hv
      go_enter Try.func23, Try.ntmps23
      go_wp2_with fail
      refine (HV.out _).mono ?_
      rintro e w1 ⟨rfl, hb⟩
      have hc := bcell hb
      have HB := Lib.hid hb
      have HR := Lib.hid ((hb.block (w.heap.size + 1) (by simp)).trans (new2_1 _ _ _))
      clear hb
      go_wp2_with fail
      all_goals (try (exfalso; omega))
      all_goals
        obtain ⟨q0, q1, q2, q3, q4, q5, q6, q7, q8⟩ := nine_set HR.out (.int .i64 0) (.int .i64 0) (.int .i64 0) (.string ⟨#[]⟩) (.string ⟨#[]⟩) (.int .i64 0) (.slice none 0 0) (.string ⟨#[]⟩) (.int .i64 0)
        refine bodyPost_ret (v := .agg #[(.int .i64 0), (.int .i64 0), (.int .i64 0), (.string ⟨#[]⟩), (.string ⟨#[]⟩), (.int .i64 0), (.slice none 0 0), (.string ⟨#[]⟩), (.int .i64 0)]) (by simp [results, Try.results23, go_sem, q0, q1, q2, q3, q4, q5, q6, q7, q8]) rfl ⟨by rw [hfin.out]; rfl, ?_⟩
        exact (((((((((((below_alloc _ _).alloc (by simp) _).trans (HB.out.mono (by simp; omega))).setCell (by simp) _).setCell (by simp) _).setCell (by simp) _).setCell (by simp) _).setCell (by simp) _).setCell (by simp) _).setCell (by simp) _).setCell (by simp) _).setCell (by simp) _
  · have hfin := Lib.hid (show termV s n = tmV 0 0 0 ⟨#[]⟩ ⟨#[]⟩ 0 (.slice none 0 0) ⟨#[]⟩ 0 by unfold termV termOk; simp [hv])
    rw [show validB s n = false by simpa using hv] at HV
    clear hv
    go_enter Try.func23, Try.ntmps23
    go_wp2_with fail
    refine (HV.out _).mono ?_
    rintro e w1 ⟨rfl, hb⟩
    have hc := bcell hb
    have HB := Lib.hid hb
    have HR := Lib.hid ((hb.block (w.heap.size + 1) (by simp)).trans (new2_1 _ _ _))
    clear hb
    go_wp2_with fail
    all_goals (try (exfalso; omega))
    all_goals
      obtain ⟨q0, q1, q2, q3, q4, q5, q6, q7, q8⟩ := nine_set HR.out (.int .i64 0) (.int .i64 0) (.int .i64 0) (.string ⟨#[]⟩) (.string ⟨#[]⟩) (.int .i64 0) (.slice none 0 0) (.string ⟨#[]⟩) (.int .i64 0)
      refine bodyPost_ret (v := .agg #[(.int .i64 0), (.int .i64 0), (.int .i64 0), (.string ⟨#[]⟩), (.string ⟨#[]⟩), (.int .i64 0), (.slice none 0 0), (.string ⟨#[]⟩), (.int .i64 0)]) (by simp [results, Try.results23, go_sem, q0, q1, q2, q3, q4, q5, q6, q7, q8]) rfl ⟨by rw [hfin.out]; rfl, ?_⟩
      exact (((((((((((below_alloc _ _).alloc (by simp) _).trans (HB.out.mono (by simp; omega))).setCell (by simp) _).setCell (by simp) _).setCell (by simp) _).setCell (by simp) _).setCell (by simp) _).setCell (by simp) _).setCell (by simp) _).setCell (by simp) _).setCell (by simp) _
set_option maxHeartbeats 1000000 in
theorem rTerm_any (s : ByteArray) (n : Int) (hs : s.size ≤ maxLen) (h0 : -9223372036854775808 ≤ n) (h1 : n ≤ 9223372036854775807) (w : World) :
    Calls Try.prog 24 #[.agg #[.string s, .int .i64 n]] w fun e w' => e = .returned (termV s n) ∧ Below w.heap.size w w' := by
  have hV := fun W => rValid_any s n hs h0 h1 W
  have HV := Lib.hid hV
  clear hV
  by_cases hv : validB s n = true
  · by_cases hl : n ≤ 16384
    · have hfin := Lib.hid (show termV s n = tmV 10 0 0 ⟨#[]⟩ ⟨#[]⟩ 0 (.slice none 0 0) s n by unfold termV termOk; simp [hv, hl])
      rw [hv] at HV
      clear hv
      go_enter Try.func24, Try.ntmps24
      go_wp2_with fail
      refine (HV.out _).mono ?_
      rintro e w1 ⟨rfl, hb⟩
      have hc := bcell hb
      have HB := Lib.hid hb
      have HR := Lib.hid ((hb.block (w.heap.size + 1) (by simp)).trans (new2_1 _ _ _))
      clear hb
      go_wp2_with fail
      all_goals (try (exfalso; omega))
      all_goals
        obtain ⟨q0, q1, q2, q3, q4, q5, q6, q7, q8⟩ := nine_set HR.out (.int .i64 10) (.int .i64 0) (.int .i64 0) (.string ⟨#[]⟩) (.string ⟨#[]⟩) (.int .i64 0) (.slice none 0 0) (.string s) (.int .i64 n)
        refine bodyPost_ret (v := .agg #[(.int .i64 10), (.int .i64 0), (.int .i64 0), (.string ⟨#[]⟩), (.string ⟨#[]⟩), (.int .i64 0), (.slice none 0 0), (.string s), (.int .i64 n)]) (by simp [results, Try.results24, go_sem, q0, q1, q2, q3, q4, q5, q6, q7, q8]) rfl ⟨by rw [hfin.out]; rfl, ?_⟩
        exact (((((((((((below_alloc _ _).alloc (by simp) _).trans (HB.out.mono (by simp; omega))).setCell (by simp) _).setCell (by simp) _).setCell (by simp) _).setCell (by simp) _).setCell (by simp) _).setCell (by simp) _).setCell (by simp) _).setCell (by simp) _).setCell (by simp) _
    · have hfin := Lib.hid (show termV s n = tmV 0 0 0 ⟨#[]⟩ ⟨#[]⟩ 0 (.slice none 0 0) ⟨#[]⟩ 0 by unfold termV termOk; simp [hl])
      rw [hv] at HV
      clear hv
      go_enter Try.func24, Try.ntmps24
      go_wp2_with fail
      refine (HV.out _).mono ?_
      rintro e w1 ⟨rfl, hb⟩
      have hc := bcell hb
      have HB := Lib.hid hb
      have HR := Lib.hid ((hb.block (w.heap.size + 1) (by simp)).trans (new2_1 _ _ _))
      clear hb
      go_wp2_with fail
      all_goals (try (exfalso; omega))
      all_goals
        obtain ⟨q0, q1, q2, q3, q4, q5, q6, q7, q8⟩ := nine_set HR.out (.int .i64 0) (.int .i64 0) (.int .i64 0) (.string ⟨#[]⟩) (.string ⟨#[]⟩) (.int .i64 0) (.slice none 0 0) (.string ⟨#[]⟩) (.int .i64 0)
        refine bodyPost_ret (v := .agg #[(.int .i64 0), (.int .i64 0), (.int .i64 0), (.string ⟨#[]⟩), (.string ⟨#[]⟩), (.int .i64 0), (.slice none 0 0), (.string ⟨#[]⟩), (.int .i64 0)]) (by simp [results, Try.results24, go_sem, q0, q1, q2, q3, q4, q5, q6, q7, q8]) rfl ⟨by rw [hfin.out]; rfl, ?_⟩
        exact (((((((((((below_alloc _ _).alloc (by simp) _).trans (HB.out.mono (by simp; omega))).setCell (by simp) _).setCell (by simp) _).setCell (by simp) _).setCell (by simp) _).setCell (by simp) _).setCell (by simp) _).setCell (by simp) _).setCell (by simp) _).setCell (by simp) _
  · have hfin := Lib.hid (show termV s n = tmV 0 0 0 ⟨#[]⟩ ⟨#[]⟩ 0 (.slice none 0 0) ⟨#[]⟩ 0 by unfold termV termOk; simp [hv])
    rw [show validB s n = false by simpa using hv] at HV
    clear hv
    go_enter Try.func24, Try.ntmps24
    go_wp2_with fail
    refine (HV.out _).mono ?_
    rintro e w1 ⟨rfl, hb⟩
    have hc := bcell hb
    have HB := Lib.hid hb
    have HR := Lib.hid ((hb.block (w.heap.size + 1) (by simp)).trans (new2_1 _ _ _))
    clear hb
    go_wp2_with fail
    all_goals (try (exfalso; omega))
    all_goals
      obtain ⟨q0, q1, q2, q3, q4, q5, q6, q7, q8⟩ := nine_set HR.out (.int .i64 0) (.int .i64 0) (.int .i64 0) (.string ⟨#[]⟩) (.string ⟨#[]⟩) (.int .i64 0) (.slice none 0 0) (.string ⟨#[]⟩) (.int .i64 0)
      refine bodyPost_ret (v := .agg #[(.int .i64 0), (.int .i64 0), (.int .i64 0), (.string ⟨#[]⟩), (.string ⟨#[]⟩), (.int .i64 0), (.slice none 0 0), (.string ⟨#[]⟩), (.int .i64 0)]) (by simp [results, Try.results24, go_sem, q0, q1, q2, q3, q4, q5, q6, q7, q8]) rfl ⟨by rw [hfin.out]; rfl, ?_⟩
      exact (((((((((((below_alloc _ _).alloc (by simp) _).trans (HB.out.mono (by simp; omega))).setCell (by simp) _).setCell (by simp) _).setCell (by simp) _).setCell (by simp) _).setCell (by simp) _).setCell (by simp) _).setCell (by simp) _).setCell (by simp) _).setCell (by simp) _
end Go.Proofs.Ytdgjbejbbmnhbaa
