/-
  Plain law of TermsGrow: a tuple and a list cell of two terms. And rows of two terms.
-/
import Derived.Test.YtgbaelkoblnlhaaBook
namespace Go.Proofs.Ytgbaelkoblnlhaa
open Go.RowKit
/-- a row of two terms, made of terms that are read -/
theorem RdS.two0 {W : World} {f f' : Fd} {it it' : TL} {ai ai' : Option Addr} {ci ci' : Nat} (h : RdS W 0 W.heap.size it (.slice ai it.len ci)) (h' : RdS W 0 W.heap.size it' (.slice ai' it'.len ci')) :
    RdS (W.alloc (.cells #[.int .i64 f.k, .int .i64 f.i, .int .i64 f.g, .string f.nm, .string f.fn, .int .i64 f.ar, .slice ai it.len ci, .string f.bs, .int .i64 f.n, .int .i64 f'.k, .int .i64 f'.i, .int .i64 f'.g, .string f'.nm, .string f'.fn, .int .i64 f'.ar, .slice ai' it'.len ci', .string f'.bs, .int .i64 f'.n] 24 (0, 0))) 0 (W.heap.size + 1) (.cons f it (.cons f' it' .nil)) (.slice (some ⟨W.heap.size, 0, none⟩) 2 2) := by
  have g := heap_alloc_new W (.cells #[.int .i64 f.k, .int .i64 f.i, .int .i64 f.g, .string f.nm, .string f.fn, .int .i64 f.ar, .slice ai it.len ci, .string f.bs, .int .i64 f.n, .int .i64 f'.k, .int .i64 f'.i, .int .i64 f'.g, .string f'.nm, .string f'.fn, .int .i64 f'.ar, .slice ai' it'.len ci', .string f'.bs, .int .i64 f'.n] 24 (0, 0))
  have g1 := (h.below (below_alloc W (.cells #[.int .i64 f.k, .int .i64 f.i, .int .i64 f.g, .string f.nm, .string f.fn, .int .i64 f.ar, .slice ai it.len ci, .string f.bs, .int .i64 f.n, .int .i64 f'.k, .int .i64 f'.i, .int .i64 f'.g, .string f'.nm, .string f'.fn, .int .i64 f'.ar, .slice ai' it'.len ci', .string f'.bs, .int .i64 f'.n] 24 (0, 0))) (Nat.le_refl _)).more (Nat.le_succ _)
  have g2 := (h'.below (below_alloc W (.cells #[.int .i64 f.k, .int .i64 f.i, .int .i64 f.g, .string f.nm, .string f.fn, .int .i64 f.ar, .slice ai it.len ci, .string f.bs, .int .i64 f.n, .int .i64 f'.k, .int .i64 f'.i, .int .i64 f'.g, .string f'.nm, .string f'.fn, .int .i64 f'.ar, .slice ai' it'.len ci', .string f'.bs, .int .i64 f'.n] 24 (0, 0))) (Nat.le_refl _)).more (Nat.le_succ _)
  refine ⟨_, _, rfl, Nat.le_refl 2, by unfold maxLen; omega, fun _ => ⟨W.heap.size, 0, rfl, RdL.rd _ (f.cells (.slice ai it.len ci) ++ (f'.cells (.slice ai' it'.len ci') ++ [])) W.heap.size 0 ⟨_, _, rfl, g1, ⟨_, _, rfl, g2, rfl⟩⟩ (Nat.zero_le _) (Nat.lt_succ_self _) fun j u hu => ?_⟩⟩
  rw [cells_of g, Nat.zero_add, List.getElem?_toArray]
  exact hu
theorem tame_two {f f' : Fd} {it it' : TL} {m : Int} (hm : m ≤ 100000) (h : 0 ≤ leftF (.cons f it (.cons f' it' .nil)) m) : tame f it ∧ tame f' it' ∧ (it.cnt : Int) + it'.cnt + 2 ≤ m ∧ (TL.cons f it (.cons f' it' .nil)).small 1000000 := by
  obtain ⟨h1, h2⟩ := leftF_cnt _ _ h
  have h3 := TL.small_mono (m' := 1000000) (by omega) _ h2
  have h4 := h3
  simp only [TL.cnt, TL.small] at h1 h3
  exact ⟨⟨by omega, h3.1, h3.2.1, h3.2.2.1, h3.2.2.2.1⟩, ⟨by omega, h3.2.2.2.2.1, h3.2.2.2.2.2.1, h3.2.2.2.2.2.2.1, h3.2.2.2.2.2.2.2.1⟩, by omega, h4⟩
/-- a term of a kind and items alone, in new memory, and a word -/
def NewK (c k : Int) (L : TL) (w : World) (e : Ending) (w' : World) : Prop := ∃ ai ci, e = .returned (.tuple #[.agg #[.int .i64 k, .int .i64 0, .int .i64 0, .string ⟨#[]⟩, .string ⟨#[]⟩, .int .i64 0, .slice ai L.len ci, .string ⟨#[]⟩, .int .i64 0], .int .i64 c]) ∧ NwS w' w.heap.size w'.heap.size L (.slice ai L.len ci) ∧ Below w.heap.size w w'
theorem tup_bad (l : TL) (v : Value) (w : World) (A B : Nat) (hm : l.cnt ≤ 1000001) (hsm : l.small 1000000) (hs : RdS w A B l v) (hB : B ≤ w.heap.size) {c : Int} (hc : tupC l = c) (hn : c ≠ 0) :
    Calls Try.prog 33 #[v] w (NewK c 0 .nil w) := by
  have h := pTuple_any l v w A B hm hsm hs hB
  rw [hc, show resF c (kF 7) = kF 0 by unfold resF; rw [if_neg hn]; rfl, show resL c l = .nil by unfold resL; rw [if_neg hn]] at h
  exact h
theorem tup_ok (l : TL) (v : Value) (w : World) (A B : Nat) (hm : l.cnt ≤ 1000001) (hsm : l.small 1000000) (hs : RdS w A B l v) (hB : B ≤ w.heap.size) (hc : tupC l = 0) :
    Calls Try.prog 33 #[v] w (NewK 0 7 l w) := by
  have h := pTuple_any l v w A B hm hsm hs hB
  rw [hc, show resF 0 (kF 7) = kF 7 from rfl, show resL 0 l = l from rfl] at h
  exact h
theorem cons_bad (f : Fd) (it : TL) (iv : Value) (f' : Fd) (it' : TL) (iv' : Value) (w : World) (A B A' B' : Nat) (ht : tame f it) (hc : it.cnt < 1000000) (ht' : tame f' it') (hs : RdS w A B it iv) (hs' : RdS w A' B' it' iv') (hB : B ≤ w.heap.size) (hB' : B' ≤ w.heap.size) {c : Int} (hcc : lstC (.cons f it .nil) f' it' = c) (hn : c ≠ 0) :
    Calls Try.prog 36 #[.agg #[.int .i64 f.k, .int .i64 f.i, .int .i64 f.g, .string f.nm, .string f.fn, .int .i64 f.ar, iv, .string f.bs, .int .i64 f.n], .agg #[.int .i64 f'.k, .int .i64 f'.i, .int .i64 f'.g, .string f'.nm, .string f'.fn, .int .i64 f'.ar, iv', .string f'.bs, .int .i64 f'.n]] w (NewK c 0 .nil w) := by
  have h := pCons_any f it iv f' it' iv' w A B A' B' ht hc ht' hs hs' hB hB'
  rw [hcc, show resF c (lstF (.cons f it .nil) f') = kF 0 by unfold resF; rw [if_neg hn]; rfl, show resL c (lstL (.cons f it .nil) f' it') = .nil by unfold resL; rw [if_neg hn]] at h
  exact h
theorem cons_ok (f : Fd) (it : TL) (iv : Value) (f' : Fd) (it' : TL) (iv' : Value) (w : World) (A B A' B' : Nat) (ht : tame f it) (hc : it.cnt < 1000000) (ht' : tame f' it') (hs : RdS w A B it iv) (hs' : RdS w A' B' it' iv') (hB : B ≤ w.heap.size) (hB' : B' ≤ w.heap.size) (hcc : lstC (.cons f it .nil) f' it' = 0) :
    Calls Try.prog 36 #[.agg #[.int .i64 f.k, .int .i64 f.i, .int .i64 f.g, .string f.nm, .string f.fn, .int .i64 f.ar, iv, .string f.bs, .int .i64 f.n], .agg #[.int .i64 f'.k, .int .i64 f'.i, .int .i64 f'.g, .string f'.nm, .string f'.fn, .int .i64 f'.ar, iv', .string f'.bs, .int .i64 f'.n]] w (NewK 0 9 ((TL.cons f it .nil).app (tailL f' it')) w) := by
  have h := pCons_any f it iv f' it' iv' w A B A' B' ht hc ht' hs hs' hB hB'
  rw [hcc, show resF 0 (lstF (.cons f it .nil) f') = kF 9 from rfl, show resL 0 (lstL (.cons f it .nil) f' it') = (TL.cons f it .nil).app (tailL f' it') from rfl] at h
  exact h
theorem size_val {f : Fd} {it : TL} : 0 ≤ sizeF f it ∧ sizeF f it ≤ 2001 ∧ (sizeF f it ≠ 0 → formT f it = true ∧ sizeF f it = ((min (wholeT f it) 2001 : Nat) : Int)) ∧ (sizeF f it = 0 → formT f it = false) := by
  unfold sizeF
  cases h : formT f it
  · simp
  · have := wholeT_pos h
    rw [if_pos rfl]
    exact ⟨by omega, by omega, fun _ => ⟨rfl, rfl⟩, fun h0 => by omega⟩
theorem form_pair (f f' : Fd) (it it' : TL) : formL (.cons f it (.cons f' it' .nil)) = (formT f it && formT f' it') := by rw [formL_cons, form_one]
theorem whole_pair (f f' : Fd) (it it' : TL) : wholeL (.cons f it (.cons f' it' .nil)) = wholeT f it + wholeT f' it' := by rw [wholeL_cons, wholeL_cons]; rfl
theorem grow_bad {f f' : Fd} {it it' : TL} (h : sizeF f it = 0 ∨ sizeF f' it' = 0) : tupC (.cons f it (.cons f' it' .nil)) = 2 ∧ lstC (.cons f it .nil) f' it' = 2 := by
  have e : (formT f it && formT f' it') = false := by
    rcases h with h | h
    · rw [(size_val (f := f)).2.2.2 h, Bool.false_and]
    · rw [(size_val (f := f')).2.2.2 h, Bool.and_false]
  unfold tupC lstC
  rw [form_pair, form_one, e]
  exact ⟨rfl, rfl⟩
theorem grow_good {f f' : Fd} {it it' : TL} (h : sizeF f it ≠ 0) (h' : sizeF f' it' ≠ 0) : formT f it = true ∧ formT f' it' = true ∧ tupC (.cons f it (.cons f' it' .nil)) = (if 2000 < sizeF f it + sizeF f' it' + 1 then 3 else 0) ∧ lstC (.cons f it .nil) f' it' = (if 2000 < sizeF f it + sizeF f' it' + 1 then 3 else 0) := by
  obtain ⟨e1, e2⟩ := (size_val (f := f)).2.2.1 h
  obtain ⟨e3, e4⟩ := (size_val (f := f')).2.2.1 h'
  have hw : (2000 < wholeT f it + wholeT f' it' + 1) ↔ (2000 < sizeF f it + sizeF f' it' + 1) := by omega
  refine ⟨e1, e3, ?_, ?_⟩
  · unfold tupC
    rw [form_pair, e1, e3, whole_pair, Bool.and_self, if_pos rfl]
    have : ¬ 255 < (TL.cons f it (.cons f' it' .nil)).len := by simp [TL.len]
    simp only [this, false_or, hw]
  · unfold lstC
    rw [form_one, e1, e3, Bool.and_self, if_pos rfl]
    have e5 : wholeL (.cons f it .nil) = wholeT f it := by rw [wholeL_cons]; rfl
    rw [e5, show (TL.cons f it .nil).len = 1 from rfl]
    simp only [hw]
theorem grow_sizes {f f' : Fd} {it it' : TL} (h : sizeF f it ≠ 0) (h' : sizeF f' it' ≠ 0) (hs : ¬ 2000 < sizeF f it + sizeF f' it' + 1) :
    sizeF (kF 7) (.cons f it (.cons f' it' .nil)) = sizeF f it + sizeF f' it' + 1 ∧ validF (kF 7) (.cons f it (.cons f' it' .nil)) = true ∧
    sizeF (kF 9) ((TL.cons f it .nil).app (tailL f' it')) = sizeF f it + sizeF f' it' + 1 ∧ validF (kF 9) ((TL.cons f it .nil).app (tailL f' it')) = true := by
  obtain ⟨e1, e2⟩ := (size_val (f := f)).2.2.1 h
  obtain ⟨e3, e4⟩ := (size_val (f := f')).2.2.1 h'
  have ft : formT (kF 7) (.cons f it (.cons f' it' .nil)) = true := form_tuple (by rw [form_pair, e1, e3]; rfl) (by simp [TL.len])
  obtain ⟨fl, wl⟩ := form_made (l := .cons f it .nil) (f := f') (it := it') (by rw [form_one, e1]) e3 (Nat.le_refl _)
  have wt := whole_tuple (.cons f it (.cons f' it' .nil))
  rw [whole_pair] at wt
  have e5 : wholeL (.cons f it .nil) = wholeT f it := by rw [wholeL_cons]; rfl
  rw [e5, show (TL.cons f it .nil).len = 1 from rfl] at wl
  refine ⟨?_, ?_, ?_, ?_⟩
  · rw [e2, e4] at hs ⊢
    rw [sizeF, ft, if_pos rfl, wt]
    omega
  · unfold validF
    rw [ft, wt]
    simp; omega
  · rw [e2, e4] at hs ⊢
    rw [sizeF, fl, if_pos rfl, wl]
    omega
  · unfold validF
    rw [fl, wl]
    simp; omega
theorem tame_made {f f' : Fd} {it it' : TL} (h : (TL.cons f it (.cons f' it' .nil)).small 1000000) (hc : (it.cnt : Int) + it'.cnt + 2 ≤ 100000) : tame (kF 7) (.cons f it (.cons f' it' .nil)) ∧ tame (kF 9) ((TL.cons f it .nil).app (tailL f' it')) := by
  have h2 := h
  simp only [TL.small] at h2
  refine ⟨⟨by simp only [TL.cnt]; omega, Nat.zero_le _, Nat.zero_le _, Nat.zero_le _, h⟩, ⟨?_, Nat.zero_le _, Nat.zero_le _, Nat.zero_le _, ?_⟩⟩
  · have := tailL_cnt f' it'
    rw [app_cnt]
    simp only [TL.cnt]
    omega
  · exact small_app ⟨h2.1, h2.2.1, h2.2.2.1, h2.2.2.2.1, trivial⟩ (tailL_small ⟨h2.2.2.2.2.1, h2.2.2.2.2.2.1, h2.2.2.2.2.2.2.1, h2.2.2.2.2.2.2.2.1⟩)
end Go.Proofs.Ytgbaelkoblnlhaa
