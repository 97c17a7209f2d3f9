/-
  Walks: FromTerm and the reference's FromTerm.
-/
import Derived.Test.YtdgjbejbbmnhbaaBitsTerm
import Derived.Test.YtdgjbejbbmnhbaaBitsLawCuts
namespace Go.Proofs.Ytdgjbejbbmnhbaa
open Go.RowKit Go.Proofs.BitsM
def bareT (i g : Int) (nm fn : ByteArray) (ar : Int) (il : Nat) : Prop := i = 0 ∧ g = 0 ∧ nm.toList.isEmpty = true ∧ fn.toList.isEmpty = true ∧ ar = 0 ∧ (il : Int) = 0
open Classical in
noncomputable def fromR (k i g : Int) (nm fn : ByteArray) (ar : Int) (il : Nat) (bs : ByteArray) (n : Int) : ByteArray × Int × Bool :=
  if k = 10 ∧ bareT i g nm fn ar il ∧ termOk bs n = true then (bs, n, true) else (⟨#[]⟩, 0, false)
def fromRet (r : ByteArray × Int × Bool) : Ending := .returned (.tuple #[.agg #[.string r.1, .int .i64 r.2.1], .bool r.2.2])
theorem from_bad {k i g : Int} {nm fn : ByteArray} {ar : Int} {il : Nat} {bs : ByteArray} {n : Int} (h : ¬ (k = 10 ∧ bareT i g nm fn ar il ∧ termOk bs n = true)) :
    fromRet (fromR k i g nm fn ar il bs n) = .returned (.tuple #[.agg #[.string ⟨#[]⟩, .int .i64 0], .bool false]) := by unfold fromR; rw [if_neg h]; rfl
theorem from_good {k i g : Int} {nm fn : ByteArray} {ar : Int} {il : Nat} {bs : ByteArray} {n : Int} (h : k = 10 ∧ bareT i g nm fn ar il ∧ termOk bs n = true) :
    fromRet (fromR k i g nm fn ar il bs n) = .returned (.tuple #[.agg #[.string bs, .int .i64 n], .bool true]) := by unfold fromR; rw [if_pos h]; rfl
set_option maxHeartbeats 8000000 in
theorem From_any (k i g : Int) (nm fn : ByteArray) (ar : Int) (ao : Option Addr) (il cap : Nat) (bs : ByteArray) (n : Int) (hs : bs.size ≤ maxLen) (_hil : il ≤ maxLen) (hn : i64ok n) (w : World) :
    Calls Try.prog 25 #[tmV k i g nm fn ar (.slice ao il cap) bs n] w fun e w' => e = fromRet (fromR k i g nm fn ar il bs n) ∧ Below w.heap.size w w' := by
  have hV := fun W => Valid_any bs n hs hn.1 hn.2 W
  have HV := Lib.hid hV
  clear hV
  rw [maxLen_val] at hs
  unfold tmV
  have HG := Lib.hid (@from_good k i g nm fn ar il bs n)
  have HN := Lib.hid (@from_bad k i g nm fn ar il bs n)
  generalize fromRet (fromR k i g nm fn ar il bs n) = R at HG HN ⊢
  go_enter Try.func25, Try.ntmps25
  go_wp2_with fail
  all_goals (try (exfalso; omega))
  all_goals first
    | (refine bodyPost_ret (v := .tuple #[.agg #[.string ⟨#[]⟩, .int .i64 0], .bool false]) (by simp [results, Try.results25, go_sem]) rfl ⟨(HN.out (by
        rintro ⟨y1, ⟨y2, y3, y4, y5, y6, y7⟩, y8⟩
        simp only [termOk, Bool.and_eq_true, decide_eq_true_eq] at y8
        first | contradiction | omega | simp_all)).symm, (((below_alloc _ _).alloc (by simp) _).alloc (by simp; omega) _)⟩)
    | (refine (HV.out _).mono ?_
       rintro e w1 ⟨rfl, hb⟩
       have hc := bcell hb
       have HB := Lib.hid hb
       have HR := Lib.hid ((hb.block (w.heap.size + 1) (by simp)).trans (new3_1 _ _ _ _))
       clear hb
       obtain ⟨q0, q1⟩ := two_set HR.out (.string ⟨#[]⟩) (.int .i64 0)
       obtain ⟨r0, r1⟩ := two_set HR.out (.string bs) (.int .i64 n)
       have Q := Lib.hid (And.intro q0 q1)
       have S := Lib.hid (And.intro r0 r1)
       clear q0 q1 r0 r1
       rcases Bool.eq_false_or_eq_true (validB bs n) with hv | hv
       · rw [hv]
         have HVv := Lib.hid hv
         clear hv
         go_wp2_with fail
         all_goals (try (exfalso; omega))
         refine bodyPost_ret (v := .tuple #[.agg #[.string bs, .int .i64 n], .bool true]) (by simp [results, Try.results25, go_sem, S.out.1, S.out.2]) rfl ⟨(HG.out ⟨by assumption, ⟨by assumption, by assumption, by assumption, by assumption, by assumption, by assumption⟩, by simp only [termOk, HVv.out, Bool.true_and, decide_eq_true_eq]; omega⟩).symm, ((((((below_alloc _ _).alloc (by simp) _).alloc (by simp; omega) _).trans (HB.out.mono (by simp; omega))).setCell (by simp) _).setCell (by simp) _)⟩
       · rw [hv]
         have HVv := Lib.hid hv
         clear hv
         go_wp2_with fail
         all_goals (try (exfalso; omega))
         refine bodyPost_ret (v := .tuple #[.agg #[.string ⟨#[]⟩, .int .i64 0], .bool false]) (by simp [results, Try.results25, go_sem, Q.out.1, Q.out.2]) rfl ⟨(HN.out (by
           rintro ⟨y1, y2, y8⟩
           simp only [termOk, HVv.out, Bool.false_and] at y8
           cases y8)).symm, ((((((below_alloc _ _).alloc (by simp) _).alloc (by simp; omega) _).trans (HB.out.mono (by simp; omega))).setCell (by simp) _).setCell (by simp) _)⟩)
set_option maxHeartbeats 8000000 in
theorem rFrom_any (k i g : Int) (nm fn : ByteArray) (ar : Int) (ao : Option Addr) (il cap : Nat) (bs : ByteArray) (n : Int) (hs : bs.size ≤ maxLen) (_hil : il ≤ maxLen) (hn : i64ok n) (w : World) :
    Calls Try.prog 26 #[tmV k i g nm fn ar (.slice ao il cap) bs n] w fun e w' => e = fromRet (fromR k i g nm fn ar il bs n) ∧ Below w.heap.size w w' := by
  have hV := fun W => rValid_any bs n hs hn.1 hn.2 W
  have HV := Lib.hid hV
  clear hV
  rw [maxLen_val] at hs
  unfold tmV
  have HG := Lib.hid (@from_good k i g nm fn ar il bs n)
  have HN := Lib.hid (@from_bad k i g nm fn ar il bs n)
  generalize fromRet (fromR k i g nm fn ar il bs n) = R at HG HN ⊢
  go_enter Try.func26, Try.ntmps26
  go_wp2_with fail
  all_goals (try (exfalso; omega))
  all_goals first
    | (refine bodyPost_ret (v := .tuple #[.agg #[.string ⟨#[]⟩, .int .i64 0], .bool false]) (by simp [results, Try.results26, go_sem]) rfl ⟨(HN.out (by
        rintro ⟨y1, ⟨y2, y3, y4, y5, y6, y7⟩, y8⟩
        simp only [termOk, Bool.and_eq_true, decide_eq_true_eq] at y8
        first | contradiction | omega | simp_all)).symm, (((below_alloc _ _).alloc (by simp) _).alloc (by simp; omega) _)⟩)
    | (refine (HV.out _).mono ?_
       rintro e w1 ⟨rfl, hb⟩
       have hc := bcell hb
       have HB := Lib.hid hb
       have HR := Lib.hid ((hb.block (w.heap.size + 1) (by simp)).trans (new3_1 _ _ _ _))
       clear hb
       obtain ⟨q0, q1⟩ := two_set HR.out (.string ⟨#[]⟩) (.int .i64 0)
       obtain ⟨r0, r1⟩ := two_set HR.out (.string bs) (.int .i64 n)
       have Q := Lib.hid (And.intro q0 q1)
       have S := Lib.hid (And.intro r0 r1)
       clear q0 q1 r0 r1
       rcases Bool.eq_false_or_eq_true (validB bs n) with hv | hv
       · rw [hv]
         have HVv := Lib.hid hv
         clear hv
         go_wp2_with fail
         all_goals (try (exfalso; omega))
         refine bodyPost_ret (v := .tuple #[.agg #[.string bs, .int .i64 n], .bool true]) (by simp [results, Try.results26, go_sem, S.out.1, S.out.2]) rfl ⟨(HG.out ⟨by assumption, ⟨by assumption, by assumption, by assumption, by assumption, by assumption, by assumption⟩, by simp only [termOk, HVv.out, Bool.true_and, decide_eq_true_eq]; omega⟩).symm, ((((((below_alloc _ _).alloc (by simp) _).alloc (by simp; omega) _).trans (HB.out.mono (by simp; omega))).setCell (by simp) _).setCell (by simp) _)⟩
       · rw [hv]
         have HVv := Lib.hid hv
         clear hv
         go_wp2_with fail
         all_goals (try (exfalso; omega))
         refine bodyPost_ret (v := .tuple #[.agg #[.string ⟨#[]⟩, .int .i64 0], .bool false]) (by simp [results, Try.results26, go_sem, Q.out.1, Q.out.2]) rfl ⟨(HN.out (by
           rintro ⟨y1, y2, y8⟩
           simp only [termOk, HVv.out, Bool.false_and] at y8
           cases y8)).symm, ((((((below_alloc _ _).alloc (by simp) _).alloc (by simp; omega) _).trans (HB.out.mono (by simp; omega))).setCell (by simp) _).setCell (by simp) _)⟩)
end Go.Proofs.Ytdgjbejbbmnhbaa
