/-
  Walks: the reference's zero, bare and bits of a term.
-/
import Derived.Test.YtgfodedmcjkmaaaDoorNine
import Derived.Test.YtgfodedmcjkmaaaDoorGreat
namespace Go.Proofs.YtgfodedmcjkmaaaDoor
open Go.RowKit
open Go.Proofs.BitsM
theorem small_at {m : Nat} : ∀ {l : TL} {k : Nat} {f : Fd} {it r : TL}, l.small m → l.drop k = .cons f it r → f.nm.size ≤ m ∧ f.fn.size ≤ m ∧ f.bs.size ≤ m ∧ it.small m
  | .nil, 0, _, _, _, _, h => by simp [TL.drop] at h
  | .nil, _ + 1, _, _, _, _, h => by simp [TL.drop] at h
  | .cons f' it' r', 0, f, it, r, hs, h => by
    rw [TL.drop] at h
    injection h with a b c
    subst a b
    exact ⟨hs.1, hs.2.1, hs.2.2.1, hs.2.2.2.1⟩
  | .cons f' it' r', k + 1, f, it, r, hs, h => small_at (l := r') (k := k) hs.2.2.2.2 h
/-- one term, small -/
def smallT (m : Nat) (f : Fd) (it : TL) : Prop := f.nm.size ≤ m ∧ f.fn.size ≤ m ∧ f.bs.size ≤ m ∧ it.small m
theorem zeroB_false {f : Fd} {n : Nat} (h : ¬ (f.k = 0 ∧ f.i = 0 ∧ f.g = 0 ∧ f.nm = ⟨#[]⟩ ∧ f.fn = ⟨#[]⟩ ∧ f.ar = 0 ∧ n = 0 ∧ f.bs = ⟨#[]⟩ ∧ f.n = 0)) : zeroB f n = false := by
  cases e : zeroB f n
  · rfl
  · exfalso
    unfold zeroB at e
    rw [Bool.and_eq_true, Fd.same_iff, decide_eq_true_eq] at e
    obtain ⟨rfl, rfl⟩ := e
    exact h ⟨rfl, rfl, rfl, rfl, rfl, rfl, rfl, rfl, rfl⟩
theorem zeroB_true : zeroB Fd.zero 0 = true := by unfold zeroB; rw [Fd.same_iff.2 rfl]; rfl
theorem list_empty {s : ByteArray} (h : ¬ s = ⟨#[]⟩) : s.toList.isEmpty = false := by
  rw [ByteArray.toList_eq]
  cases e : s.data.toList with
  | nil => exact absurd (ByteArray.ext (Array.ext' (by rw [e]))) h
  | cons a l => rfl
set_option maxHeartbeats 4000000 in
theorem zero_any (f : Fd) (ai : Option Addr) (n ci : Nat) (w : World) :
    Calls Tryd.prog 45 #[.agg #[.int .i64 f.k, .int .i64 f.i, .int .i64 f.g, .string f.nm, .string f.fn, .int .i64 f.ar, .slice ai n ci, .string f.bs, .int .i64 f.n]] w fun e w' => e = .returned (.bool (zeroB f n)) ∧ Below w.heap.size w w' := by
  obtain ⟨k, i, g, nm, fn, ar, bs, m⟩ := f
  by_cases h : k = 0
  case neg =>
    have HF := Lib.hid (zeroB_false (f := ⟨k, i, g, nm, fn, ar, bs, m⟩) (n := n) fun e => h (by obtain ⟨h0, h1, h2, h3, h4, h5, h6, h7, h8⟩ := e; assumption))
    have x1 : (k == 0) = false := by simpa using h
    clear h
    go_enter Tryd.func45, Tryd.ntmps45
    go_wp2_with fail
    go_ret
    exact ⟨by rw [HF.out]; rfl, below_alloc _ _⟩
  subst h
  by_cases h : i = 0
  case neg =>
    have HF := Lib.hid (zeroB_false (f := ⟨0, i, g, nm, fn, ar, bs, m⟩) (n := n) fun e => h (by obtain ⟨h0, h1, h2, h3, h4, h5, h6, h7, h8⟩ := e; assumption))
    have x1 : (i == 0) = false := by simpa using h
    clear h
    go_enter Tryd.func45, Tryd.ntmps45
    go_wp2_with fail
    go_ret
    exact ⟨by rw [HF.out]; rfl, below_alloc _ _⟩
  subst h
  by_cases h : g = 0
  case neg =>
    have HF := Lib.hid (zeroB_false (f := ⟨0, 0, g, nm, fn, ar, bs, m⟩) (n := n) fun e => h (by obtain ⟨h0, h1, h2, h3, h4, h5, h6, h7, h8⟩ := e; assumption))
    have x1 : (g == 0) = false := by simpa using h
    clear h
    go_enter Tryd.func45, Tryd.ntmps45
    go_wp2_with fail
    go_ret
    exact ⟨by rw [HF.out]; rfl, below_alloc _ _⟩
  subst h
  by_cases h : nm = ⟨#[]⟩
  case neg =>
    have HF := Lib.hid (zeroB_false (f := ⟨0, 0, 0, nm, fn, ar, bs, m⟩) (n := n) fun e => h (by obtain ⟨h0, h1, h2, h3, h4, h5, h6, h7, h8⟩ := e; assumption))
    have x1 : nm.toList.isEmpty = false := list_empty h
    have x2 : (nm.toList == []) = false := by rw [beq_eq_false_iff_ne]; intro e; rw [e] at x1; cases x1
    clear h
    go_enter Tryd.func45, Tryd.ntmps45
    go_wp2_with fail
    go_ret
    exact ⟨by rw [HF.out]; rfl, below_alloc _ _⟩
  subst h
  by_cases h : fn = ⟨#[]⟩
  case neg =>
    have HF := Lib.hid (zeroB_false (f := ⟨0, 0, 0, ⟨#[]⟩, fn, ar, bs, m⟩) (n := n) fun e => h (by obtain ⟨h0, h1, h2, h3, h4, h5, h6, h7, h8⟩ := e; assumption))
    have x1 : fn.toList.isEmpty = false := list_empty h
    have x2 : (fn.toList == []) = false := by rw [beq_eq_false_iff_ne]; intro e; rw [e] at x1; cases x1
    clear h
    go_enter Tryd.func45, Tryd.ntmps45
    go_wp2_with fail
    go_ret
    exact ⟨by rw [HF.out]; rfl, below_alloc _ _⟩
  subst h
  by_cases h : ar = 0
  case neg =>
    have HF := Lib.hid (zeroB_false (f := ⟨0, 0, 0, ⟨#[]⟩, ⟨#[]⟩, ar, bs, m⟩) (n := n) fun e => h (by obtain ⟨h0, h1, h2, h3, h4, h5, h6, h7, h8⟩ := e; assumption))
    have x1 : (ar == 0) = false := by simpa using h
    clear h
    go_enter Tryd.func45, Tryd.ntmps45
    go_wp2_with fail
    go_ret
    exact ⟨by rw [HF.out]; rfl, below_alloc _ _⟩
  subst h
  by_cases h : n = 0
  case neg =>
    have HF := Lib.hid (zeroB_false (f := ⟨0, 0, 0, ⟨#[]⟩, ⟨#[]⟩, 0, bs, m⟩) (n := n) fun e => h (by obtain ⟨h0, h1, h2, h3, h4, h5, h6, h7, h8⟩ := e; assumption))
    have x1 : ((n : Int) == 0) = false := by simp; omega
    have x2 : (n == 0) = false := by simpa using h
    clear h
    go_enter Tryd.func45, Tryd.ntmps45
    go_wp2_with fail
    go_ret
    exact ⟨by rw [HF.out]; rfl, below_alloc _ _⟩
  subst h
  by_cases h : bs = ⟨#[]⟩
  case neg =>
    have HF := Lib.hid (zeroB_false (f := ⟨0, 0, 0, ⟨#[]⟩, ⟨#[]⟩, 0, bs, m⟩) (n := 0) fun e => h (by obtain ⟨h0, h1, h2, h3, h4, h5, h6, h7, h8⟩ := e; assumption))
    have x1 : bs.toList.isEmpty = false := list_empty h
    have x2 : (bs.toList == []) = false := by rw [beq_eq_false_iff_ne]; intro e; rw [e] at x1; cases x1
    clear h
    go_enter Tryd.func45, Tryd.ntmps45
    go_wp2_with fail
    go_ret
    exact ⟨by rw [HF.out]; rfl, below_alloc _ _⟩
  subst h
  by_cases h : m = 0
  case neg =>
    have HF := Lib.hid (zeroB_false (f := ⟨0, 0, 0, ⟨#[]⟩, ⟨#[]⟩, 0, ⟨#[]⟩, m⟩) (n := 0) fun e => h (by obtain ⟨h0, h1, h2, h3, h4, h5, h6, h7, h8⟩ := e; assumption))
    have x1 : (m == 0) = false := by simpa using h
    clear h
    go_enter Tryd.func45, Tryd.ntmps45
    go_wp2_with fail
    go_ret
    exact ⟨by rw [HF.out]; rfl, below_alloc _ _⟩
  subst h
  have HF := Lib.hid zeroB_true
  go_enter Tryd.func45, Tryd.ntmps45
  go_wp2_with fail
  go_ret
  exact ⟨ret_bool HF.out.symm, below_alloc _ _⟩
def BareRet (f : Fd) (n : Nat) (w : World) (e : Ending) (w' : World) : Prop := ∃ ai ci, e = .returned (.agg #[.int .i64 (bareF f).k, .int .i64 (bareF f).i, .int .i64 (bareF f).g, .string (bareF f).nm, .string (bareF f).fn, .int .i64 (bareF f).ar, .slice ai (bareN f n) ci, .string (bareF f).bs, .int .i64 (bareF f).n]) ∧ Below w.heap.size w w'
theorem bareF_other {f : Fd} (h1 : f.k ≠ 1) (h2 : f.k ≠ 2) (h3 : f.k ≠ 3) (h4 : f.k ≠ 4) (h5 : f.k ≠ 5) (h6 : f.k ≠ 6) (h10 : f.k ≠ 10) : bareF f = {f with k := 0} := by
  unfold bareF
  rw [if_neg h1, if_neg h2, if_neg (by omega), if_neg h4, if_neg h5, if_neg h10]
theorem bareN_other {f : Fd} {n : Nat} (h4 : f.k ≠ 4) (h7 : f.k ≠ 7) (h9 : f.k ≠ 9) : bareN f n = n := by
  unfold bareN dropsK
  rw [decide_eq_false h4, decide_eq_false h7, decide_eq_false h9]; rfl
set_option maxHeartbeats 4000000 in
theorem bare_any (f : Fd) (ao : Option Addr) (n cap : Nat) (w : World) : Calls Tryd.prog 46 #[.agg #[.int .i64 f.k, .int .i64 f.i, .int .i64 f.g, .string f.nm, .string f.fn, .int .i64 f.ar, .slice ao n cap, .string f.bs, .int .i64 f.n]] w (BareRet f n w) := by
  by_cases hk : f.k = 1
  · obtain ⟨k, i, g, nm, fn, ar, bs, m⟩ := f
    simp only at hk
    subst hk
    go_enter Tryd.func46, Tryd.ntmps46
    go_wp2_with fail
    refine bodyPost_ret (results_one rfl _ _ (w.heap.size + 1) _ _ _ _ _ _ _ _ _ rfl (new2_1 w _ _)) rfl ?_
    exact ⟨_, _, rfl, balloc (balloc (Below.refl _ _) _) _⟩
  have HN1 := Lib.hid hk
  have x1 : (f.k == 1) = false := by simpa using hk
  clear hk
  by_cases hk : f.k = 2
  · obtain ⟨k, i, g, nm, fn, ar, bs, m⟩ := f
    simp only at hk
    subst hk
    go_enter Tryd.func46, Tryd.ntmps46
    go_wp2_with fail
    refine bodyPost_ret (results_one rfl _ _ (w.heap.size + 1) _ _ _ _ _ _ _ _ _ rfl (new2_1 w _ _)) rfl ?_
    exact ⟨_, _, rfl, balloc (balloc (Below.refl _ _) _) _⟩
  have HN2 := Lib.hid hk
  have x2 : (f.k == 2) = false := by simpa using hk
  clear hk
  by_cases hk : f.k = 3
  · obtain ⟨k, i, g, nm, fn, ar, bs, m⟩ := f
    simp only at hk
    subst hk
    go_enter Tryd.func46, Tryd.ntmps46
    go_wp2_with fail
    refine bodyPost_ret (results_one rfl _ _ (w.heap.size + 1) _ _ _ _ _ _ _ _ _ rfl (new2_1 w _ _)) rfl ?_
    exact ⟨_, _, rfl, balloc (balloc (Below.refl _ _) _) _⟩
  have HN3 := Lib.hid hk
  have x3 : (f.k == 3) = false := by simpa using hk
  clear hk
  by_cases hk : f.k = 4
  · obtain ⟨k, i, g, nm, fn, ar, bs, m⟩ := f
    simp only at hk
    subst hk
    go_enter Tryd.func46, Tryd.ntmps46
    go_wp2_with fail
    refine bodyPost_ret (results_one rfl _ _ (w.heap.size + 1) _ _ _ _ _ _ _ _ _ rfl (new2_1 w _ _)) rfl ?_
    exact ⟨_, _, rfl, balloc (balloc (Below.refl _ _) _) _⟩
  have HN4 := Lib.hid hk
  have x4 : (f.k == 4) = false := by simpa using hk
  clear hk
  by_cases hk : f.k = 5
  · obtain ⟨k, i, g, nm, fn, ar, bs, m⟩ := f
    simp only at hk
    subst hk
    go_enter Tryd.func46, Tryd.ntmps46
    go_wp2_with fail
    refine bodyPost_ret (results_one rfl _ _ (w.heap.size + 1) _ _ _ _ _ _ _ _ _ rfl (new2_1 w _ _)) rfl ?_
    exact ⟨_, _, rfl, balloc (balloc (Below.refl _ _) _) _⟩
  have HN5 := Lib.hid hk
  have x5 : (f.k == 5) = false := by simpa using hk
  clear hk
  by_cases hk : f.k = 6
  · obtain ⟨k, i, g, nm, fn, ar, bs, m⟩ := f
    simp only at hk
    subst hk
    go_enter Tryd.func46, Tryd.ntmps46
    go_wp2_with fail
    refine bodyPost_ret (results_one rfl _ _ (w.heap.size + 1) _ _ _ _ _ _ _ _ _ rfl (new2_1 w _ _)) rfl ?_
    exact ⟨_, _, rfl, balloc (balloc (Below.refl _ _) _) _⟩
  have HN6 := Lib.hid hk
  have x6 : (f.k == 6) = false := by simpa using hk
  clear hk
  by_cases hk : f.k = 7
  · obtain ⟨k, i, g, nm, fn, ar, bs, m⟩ := f
    simp only at hk
    subst hk
    go_enter Tryd.func46, Tryd.ntmps46
    go_wp2_with fail
    refine bodyPost_ret (results_one rfl _ _ (w.heap.size + 1) _ _ _ _ _ _ _ _ _ rfl (new2_1 w _ _)) rfl ?_
    exact ⟨_, _, rfl, balloc (balloc (Below.refl _ _) _) _⟩
  have HN7 := Lib.hid hk
  have x7 : (f.k == 7) = false := by simpa using hk
  clear hk
  by_cases hk : f.k = 8
  · obtain ⟨k, i, g, nm, fn, ar, bs, m⟩ := f
    simp only at hk
    subst hk
    go_enter Tryd.func46, Tryd.ntmps46
    go_wp2_with fail
    refine bodyPost_ret (results_one rfl _ _ (w.heap.size + 1) _ _ _ _ _ _ _ _ _ rfl (new2_1 w _ _)) rfl ?_
    exact ⟨_, _, rfl, balloc (balloc (Below.refl _ _) _) _⟩
  have HN8 := Lib.hid hk
  have x8 : (f.k == 8) = false := by simpa using hk
  clear hk
  by_cases hk : f.k = 9
  · obtain ⟨k, i, g, nm, fn, ar, bs, m⟩ := f
    simp only at hk
    subst hk
    go_enter Tryd.func46, Tryd.ntmps46
    go_wp2_with fail
    refine bodyPost_ret (results_one rfl _ _ (w.heap.size + 1) _ _ _ _ _ _ _ _ _ rfl (new2_1 w _ _)) rfl ?_
    exact ⟨_, _, rfl, balloc (balloc (Below.refl _ _) _) _⟩
  have HN9 := Lib.hid hk
  have x9 : (f.k == 9) = false := by simpa using hk
  clear hk
  by_cases hk : f.k = 10
  · obtain ⟨k, i, g, nm, fn, ar, bs, m⟩ := f
    simp only at hk
    subst hk
    go_enter Tryd.func46, Tryd.ntmps46
    go_wp2_with fail
    refine bodyPost_ret (results_one rfl _ _ (w.heap.size + 1) _ _ _ _ _ _ _ _ _ rfl (new2_1 w _ _)) rfl ?_
    exact ⟨_, _, rfl, balloc (balloc (Below.refl _ _) _) _⟩
  have HN10 := Lib.hid hk
  have x10 : (f.k == 10) = false := by simpa using hk
  clear hk
  have HF := Lib.hid (bareF_other HN1.out HN2.out HN3.out HN4.out HN5.out HN6.out HN10.out)
  have HM := Lib.hid (bareN_other (n := n) HN4.out HN7.out HN9.out)
  go_enter Tryd.func46, Tryd.ntmps46
  go_wp2_with fail
  refine bodyPost_ret (results_one rfl _ _ (w.heap.size + 1) _ _ _ _ _ _ _ _ _ rfl (new2_1 w _ _)) rfl ?_
  unfold BareRet
  rw [HF.out, HM.out]
  exact ⟨_, _, rfl, balloc (balloc (Below.refl _ _) _) _⟩
end Go.Proofs.YtgfodedmcjkmaaaDoor
