/-
  Plain law of TermsLists: lists made of rows, taken apart again.
-/
import Derived.Test.YtgbaelkoblnlhaaBoth
namespace Go.Proofs.Ytgbaelkoblnlhaa
open Go.RowKit
theorem form_k9 {f : Fd} {it : TL} (h : formT f it = true) (hk : f.k = 9) : f = kF 9 := by
  have h1 := (form_node h).1
  unfold nodeB zeroB at h1
  simp only [Bool.and_eq_true] at h1
  have h2 := Fd.same_iff.1 h1.1.1
  unfold bareF at h2
  rw [if_neg (by omega), if_neg (by omega), if_neg (by omega), if_neg (by omega), if_neg (by omega), if_neg (by omega)] at h2
  cases f with
  | mk k i g nm fn ar bs n =>
    simp only at hk
    subst hk
    injection h2 with _ a b c d e g h
    subst a b c d e g h
    rfl
theorem tailL_two {f : Fd} {it : TL} (h : formT f it = true) : (f.k = 9 ∧ tailL f it = it ∧ 2 ≤ it.len) ∨ (f.k ≠ 9 ∧ tailL f it = .cons f it .nil) := by
  by_cases hk : f.k = 9
  · exact .inl ⟨hk, by unfold tailL; rw [if_pos hk], (ok_list (node_ok (form_node h).1) hk).1⟩
  · exact .inr ⟨hk, by unfold tailL; rw [if_neg hk]⟩
theorem tailL_lst (m : TL) (f : Fd) (it : TL) : tailL (lstF m f) (lstL m f it) = m.app (tailL f it) := by
  unfold lstF lstL
  cases m with
  | nil => rfl
  | cons a b r => rfl
theorem lst_app (m n : TL) (f : Fd) (it : TL) : lstF (m.app n) f = lstF m (lstF n f) ∧ lstL (m.app n) f it = lstL m (lstF n f) (lstL n f it) := by
  cases m with
  | nil => exact ⟨rfl, rfl⟩
  | cons a b r =>
    refine ⟨rfl, ?_⟩
    have h1 : lstL ((TL.cons a b r).app n) f it = ((TL.cons a b r).app n).app (tailL f it) := rfl
    have h2 : lstL (TL.cons a b r) (lstF n f) (lstL n f it) = (TL.cons a b r).app (tailL (lstF n f) (lstL n f it)) := rfl
    rw [h1, h2, tailL_lst, app_assoc]
theorem lst_size {m : TL} {f : Fd} {it : TL} (hm : formL m = true) (hf : formT f it = true) : formT (lstF m f) (lstL m f it) = true ∧ wholeT (lstF m f) (lstL m f it) = wholeL m + wholeT f it + m.len := by
  cases m with
  | nil =>
    refine ⟨hf, ?_⟩
    show wholeT f it = 0 + wholeT f it + 0
    omega
  | cons a b r => exact form_made hm hf (Nat.succ_le_succ (Nat.zero_le _))
theorem lstC_zero {m : TL} {f : Fd} {it : TL} (hm : formL m = true) (hf : formT f it = true) (h : wholeL m + wholeT f it + m.len ≤ 2000) : lstC m f it = 0 := by
  rw [lstC_ok hm hf, if_neg (by omega)]
theorem lstC_cases (m : TL) (f : Fd) (it : TL) : lstC m f it = 2 ∨ lstC m f it = 3 ∨ (lstC m f it = 0 ∧ formL m = true ∧ formT f it = true ∧ wholeL m + wholeT f it + m.len ≤ 2000) := by
  by_cases h1 : formL m = true
  · by_cases h2 : formT f it = true
    · have e := lstC_ok h1 h2
      by_cases h3 : 2000 < wholeL m + wholeT f it + m.len
      · exact .inr (.inl (by rw [e, if_pos h3]))
      · exact .inr (.inr ⟨by rw [e, if_neg h3], h1, h2, by omega⟩)
    · exact .inl (lstC_bad (.inr (by simpa using h2)))
  · exact .inl (lstC_bad (.inl (by simpa using h1)))
/-- one step of the loop: the head, the tail, and the cell of both -/
theorem list_step {a : Fd} {b r : TL} {f : Fd} {it : TL} (hm : formL (.cons a b r) = true) (hf : formT f it = true) (hw : wholeL (.cons a b r) + wholeT f it + (TL.cons a b r).len ≤ 2000) :
    isL (lstF (.cons a b r) f) (lstL (.cons a b r) f it) = true ∧ headF (lstF (.cons a b r) f) (lstL (.cons a b r) f it) = a ∧ headL (lstF (.cons a b r) f) (lstL (.cons a b r) f it) = b ∧
    tlF (lstF (.cons a b r) f) (lstL (.cons a b r) f it) = lstF r f ∧ tlL (lstF (.cons a b r) f) (lstL (.cons a b r) f it) = lstL r f it ∧
    lstC (.cons a b .nil) (lstF r f) (lstL r f it) = 0 ∧ lstF (.cons a b .nil) (lstF r f) = lstF (.cons a b r) f ∧ lstL (.cons a b .nil) (lstF r f) (lstL r f it) = lstL (.cons a b r) f it := by
  obtain ⟨g1, g2⟩ := lst_size hm hf
  have hab : formT a b = true ∧ formL r = true := by rw [formL_cons, Bool.and_eq_true] at hm; exact hm
  obtain ⟨g3, g4⟩ := lst_size hab.2 hf
  have hV : isL (lstF (.cons a b r) f) (lstL (.cons a b r) f it) = true := by
    refine isL_yes rfl ?_
    unfold validF
    rw [g1, g2, Bool.true_and, decide_eq_true hw]
  have hL : lstL (.cons a b r) f it = .cons a b (r.app (tailL f it)) := rfl
  have hlen : (lstL (.cons a b r) f it).len = (r.app (tailL f it)).len + 1 := by rw [hL]; rfl
  have hd : (lstL (.cons a b r) f it).drop 1 = r.app (tailL f it) := by rw [hL, TL.drop, TL.drop_zero]
  have ht : tlF (lstF (.cons a b r) f) (lstL (.cons a b r) f it) = lstF r f ∧ tlL (lstF (.cons a b r) f) (lstL (.cons a b r) f it) = lstL r f it := by
    unfold tlF tlL
    rw [if_pos hV, if_pos hV, hd, hlen]
    cases r with
    | nil =>
      show (if (tailL f it).len + 1 = 2 then hdF (tailL f it) else kF 9) = f ∧ (if (tailL f it).len + 1 = 2 then hdL (tailL f it) else tailL f it) = it
      rcases tailL_two hf with ⟨h1, h2, h3⟩ | ⟨h1, h2⟩
      · rw [h2, if_neg (by omega), if_neg (by omega)]
        exact ⟨(form_k9 hf h1).symm, rfl⟩
      · rw [h2, if_pos (show (TL.cons f it .nil).len + 1 = 2 from rfl), if_pos (show (TL.cons f it .nil).len + 1 = 2 from rfl)]
        exact ⟨rfl, rfl⟩
    | cons c d s =>
      have h1 := tailL_form hf
      have h2 : ((TL.cons c d s).app (tailL f it)).len + 1 ≠ 2 := by
        rw [TL.len_app]
        simp only [TL.len]
        omega
      rw [if_neg h2, if_neg h2]
      exact ⟨rfl, rfl⟩
  refine ⟨hV, by unfold headF; rw [if_pos hV]; rfl, by unfold headL; rw [if_pos hV]; rfl, ht.1, ht.2, ?_, rfl, ?_⟩
  · refine lstC_zero (by rw [form_one]; exact hab.1) g3 ?_
    rw [g4]
    simp only [wholeL_cons, TL.len] at hw
    have e : wholeL (.cons a b .nil) = wholeT a b := by rw [wholeL_cons]; rfl
    rw [e, show (TL.cons a b .nil).len = 1 from rfl]
    omega
  · show (TL.cons a b .nil).app (tailL (lstF r f) (lstL r f it)) = _
    rw [tailL_lst]
    rfl
theorem form_dropL : ∀ (l : TL) (k : Nat), formL l = true → formL (l.drop k) = true ∧ wholeL (l.drop k) + (l.drop k).len ≤ wholeL l + l.len
  | .nil, 0, h => ⟨h, Nat.le_refl _⟩
  | .nil, _ + 1, h => ⟨h, Nat.le_refl _⟩
  | .cons _ _ _, 0, h => ⟨h, Nat.le_refl _⟩
  | .cons f it r, k + 1, h => by
    rw [formL_cons, Bool.and_eq_true] at h
    obtain ⟨h1, h2⟩ := form_dropL r k h.2
    refine ⟨h1, Nat.le_trans h2 ?_⟩
    rw [wholeL_cons]
    simp only [TL.len]
    omega
def aggT (f : Fd) (iv : Value) : Value := .agg #[.int .i64 f.k, .int .i64 f.i, .int .i64 f.g, .string f.nm, .string f.fn, .int .i64 f.ar, iv, .string f.bs, .int .i64 f.n]
/-- what List answers of a row and a term -/
def ListC (l : TL) (f : Fd) (it : TL) (C : Int) (F : Fd) (L : TL) : Prop := ∀ v iv w A B A' B', RdS w A B l v → RdS w A' B' it iv → B ≤ w.heap.size → B' ≤ w.heap.size → Calls Try.prog 34 #[v, .agg #[.int .i64 f.k, .int .i64 f.i, .int .i64 f.g, .string f.nm, .string f.fn, .int .i64 f.ar, iv, .string f.bs, .int .i64 f.n]] w (NewP (.int .i64 C) F L w)
theorem lists_bundle (la lb : TL) (f : Fd) (it : TL) (hc : la.cnt + lb.cnt + it.cnt + 2 ≤ 1000000) (h1 : la.small 1000000) (h2 : lb.small 1000000) (ht : tame f it) : ∃ (C : Int) (F : Fd) (L : TL), ListC (la.app lb) f it C F L ∧
    (C = 2 ∨ C = 3 ∨ (C = 0 ∧ ∃ F2 L2, ListC lb f it 0 F2 L2 ∧ ListC la F2 L2 0 F L ∧ formT F2 L2 = true ∧ tame F2 L2 ∧ L2.cnt ≤ lb.cnt + it.cnt + 1 ∧ formL la = true ∧ wholeL la + wholeT F2 L2 + la.len ≤ 2000 ∧ F = lstF la F2 ∧ L = lstL la F2 L2)) := by
  refine ⟨_, _, _, fun v iv w A B A' B' h h' hB hB' => pList_any (la.app lb) v f it iv w A B A' B' (by rw [app_cnt]; omega) (small_app h1 h2) ht h h' hB hB', ?_⟩
  rcases lstC_cases (la.app lb) f it with e | e | ⟨e, e1, e2, e3⟩
  · exact .inl e
  · exact .inr (.inl e)
  · refine .inr (.inr ⟨e, lstF lb f, lstL lb f it, ?_⟩)
    rw [formL_app, Bool.and_eq_true] at e1
    rw [wholeL_app, TL.len_app] at e3
    obtain ⟨g1, g2⟩ := lst_size e1.2 e2
    obtain ⟨g3, g4⟩ := tame_list (l := lb) (f := f) (it := it) (by omega) h2 ht
    obtain ⟨g5, g6⟩ := lst_app la lb f it
    have c2 : lstC lb f it = 0 := lstC_zero e1.2 e2 (by omega)
    have c1 : lstC la (lstF lb f) (lstL lb f it) = 0 := lstC_zero e1.1 g1 (by rw [g2]; omega)
    refine ⟨fun v iv w A B A' B' h h' hB hB' => ?_, fun v iv w A B A' B' h h' hB hB' => ?_, g1, g3, g4, e1.1, by rw [g2]; omega, ?_, ?_⟩
    · have h3 := pList_any lb v f it iv w A B A' B' (by omega) h2 ht h h' hB hB'
      rw [c2] at h3
      exact h3
    · have h3 := pList_any la v (lstF lb f) (lstL lb f it) iv w A B A' B' (by omega) h1 g3 h h' hB hB'
      rw [c1] at h3
      rw [e, show resF 0 (lstF (la.app lb) f) = lstF (la.app lb) f from rfl, show resL 0 (lstL (la.app lb) f it) = lstL (la.app lb) f it from rfl, g5, g6]
      exact h3
    · rw [e]; exact g5
    · rw [e]; exact g6
theorem small_dropL {n : Nat} : ∀ (l : TL) (k : Nat), l.small n → (l.drop k).small n
  | .nil, 0, h => h
  | .nil, _ + 1, h => h
  | .cons _ _ _, 0, h => h
  | .cons _ _ r, k + 1, h => small_dropL r k h.2.2.2.2
/-- what one round of the law's loop asks: the calls' answers, by the terms' names -/
theorem step_calls (la : TL) (F2 : Fd) (L2 : TL) (k : Nat) (hk : k < la.len) (hc : la.cnt + L2.cnt + 2 ≤ 500000) (h1 : la.small 1000000) (ht : tame F2 L2) (hm : formL la = true) (hf : formT F2 L2 = true) (hw : wholeL la + wholeT F2 L2 + la.len ≤ 2000) :
    ∃ fa ia Fk Lk Fn Ln, la.drop k = .cons fa ia (la.drop (k + 1)) ∧ Fk = lstF (la.drop k) F2 ∧ Lk = lstL (la.drop k) F2 L2 ∧ Fn = lstF (la.drop (k + 1)) F2 ∧ Ln = lstL (la.drop (k + 1)) F2 L2 ∧ ia.cnt ≤ la.cnt ∧
    (∀ iv w A B, RdS w A B Lk iv → B ≤ w.heap.size → Calls Try.prog 49 #[.agg #[.int .i64 Fk.k, .int .i64 Fk.i, .int .i64 Fk.g, .string Fk.nm, .string Fk.fn, .int .i64 Fk.ar, iv, .string Fk.bs, .int .i64 Fk.n]] w (NewP (.bool true) fa ia w)) ∧
    (∀ iv w A B, RdS w A B Lk iv → B ≤ w.heap.size → Calls Try.prog 50 #[.agg #[.int .i64 Fk.k, .int .i64 Fk.i, .int .i64 Fk.g, .string Fk.nm, .string Fk.fn, .int .i64 Fk.ar, iv, .string Fk.bs, .int .i64 Fk.n]] w (NewP (.bool true) Fn Ln w)) ∧
    (∀ iv iv' w A B A' B', RdS w A B ia iv → RdS w A' B' Ln iv' → B ≤ w.heap.size → B' ≤ w.heap.size → Calls Try.prog 36 #[.agg #[.int .i64 fa.k, .int .i64 fa.i, .int .i64 fa.g, .string fa.nm, .string fa.fn, .int .i64 fa.ar, iv, .string fa.bs, .int .i64 fa.n], .agg #[.int .i64 Fn.k, .int .i64 Fn.i, .int .i64 Fn.g, .string Fn.nm, .string Fn.fn, .int .i64 Fn.ar, iv', .string Fn.bs, .int .i64 Fn.n]] w (NewP (.int .i64 0) Fk Lk w)) := by
  obtain ⟨fa, ia, e⟩ := TL.drop_at la k hk
  obtain ⟨d1, d2⟩ := form_dropL la k hm
  have hm2 : formL (.cons fa ia (la.drop (k + 1))) = true := by rw [← e]; exact d1
  have hw2 : wholeL (.cons fa ia (la.drop (k + 1))) + wholeT F2 L2 + (TL.cons fa ia (la.drop (k + 1))).len ≤ 2000 := by rw [← e]; omega
  obtain ⟨s1, s2, s3, s4, s5, s6, s7, s8⟩ := list_step hm2 hf hw2
  rw [← e] at s1 s2 s3 s4 s5 s7 s8
  have c1 := TL.cnt_drop la k
  have c2 := TL.cnt_drop la (k + 1)
  obtain ⟨t1, t2⟩ := tame_list (l := la.drop k) (f := F2) (it := L2) (by omega) (small_dropL la k h1) ht
  obtain ⟨t3, t4⟩ := tame_list (l := la.drop (k + 1)) (f := F2) (it := L2) (by omega) (small_dropL la (k + 1) h1) ht
  have h3 := small_dropL la k h1
  rw [e] at h3 c1
  simp only [TL.cnt] at c1
  have t5 : tame fa ia := ⟨by omega, h3.1, h3.2.1, h3.2.2.1, h3.2.2.2.1⟩
  refine ⟨fa, ia, _, _, _, _, e, rfl, rfl, rfl, rfl, by omega, fun iv w A B h hB => ?_, fun iv w A B h hB => ?_, fun iv iv' w A B A' B' h h' hB hB' => ?_⟩
  · have q := pHead_any _ _ iv w A B t1 h hB
    rw [s1, s2, s3] at q
    exact q
  · have q := pTail_any _ _ iv w A B t1 h hB
    rw [s1, s4, s5] at q
    exact q
  · have q := pCons_any fa ia iv _ _ iv' w A B A' B' t5 (by omega) t3 h h' hB hB'
    rw [s6, s7, s8] at q
    exact q
end Go.Proofs.Ytgbaelkoblnlhaa
