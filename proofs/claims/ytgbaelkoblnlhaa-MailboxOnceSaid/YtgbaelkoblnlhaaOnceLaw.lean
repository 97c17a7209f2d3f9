/-
  The plain law of MailboxOnce: numbers put, numbers taken, numbers left. No program in sight.
-/
import Derived.Test.YtgbaelkoblnlhaaOne
namespace Go.Proofs.Ytgbaelkoblnlhaa
open Go.RowKit
/-- a row of numbers as terms -/
def rowN : List Nat → TL
  | [] => .nil
  | n :: r => .cons (intF (n : Int)) .nil (rowN r)
theorem rowN_len : ∀ ms : List Nat, (rowN ms).len = ms.length
  | [] => rfl
  | _ :: r => by simp only [rowN, TL.len, rowN_len r, List.length_cons]
theorem rowN_cnt : ∀ ms : List Nat, (rowN ms).cnt = ms.length
  | [] => rfl
  | _ :: r => by simp only [rowN, TL.cnt, rowN_cnt r, List.length_cons]; omega
theorem rowN_app : ∀ (ms : List Nat) (n : Nat), (rowN ms).app (.cons (intF (n : Int)) .nil .nil) = rowN (ms ++ [n])
  | [], _ => rfl
  | _ :: r, n => by simp only [rowN, TL.app, rowN_app r n, List.cons_append]
theorem rowN_del : ∀ (ms : List Nat) (p : Nat), (rowN ms).del p = rowN (ms.eraseIdx p)
  | [], p => by cases p <;> rfl
  | _ :: r, 0 => TL.del_zero _ _ _
  | n :: r, p + 1 => by rw [rowN, TL.del_succ, rowN_del r p]; rfl
theorem rowN_drop : ∀ (ms : List Nat) (p n : Nat), ms[p]? = some n → ∃ r, (rowN ms).drop p = .cons (intF (n : Int)) .nil r
  | [], p, n, h => by simp at h
  | m :: r, 0, n, h => by
    simp only [List.getElem?_cons_zero, Option.some.injEq] at h
    subst h
    exact ⟨_, TL.drop_zero _⟩
  | m :: r, p + 1, n, h => by
    obtain ⟨q, hq⟩ := rowN_drop r p n (by simpa using h)
    exact ⟨q, hq⟩
/-- numbers put so far, taken, left -/
structure OnceI (put : Nat) (tk ms : List Nat) : Prop where
  sorted : ms.Pairwise (· < ·)
  cnt : ∀ n, tk.count n + ms.count n = if n < put then 1 else 0
  len : tk.length + ms.length = put
theorem OnceI.zero : OnceI 0 [] [] := ⟨List.Pairwise.nil, fun n => by simp, rfl⟩
theorem OnceI.lt {put : Nat} {tk ms : List Nat} (h : OnceI put tk ms) {n : Nat} (hn : n ∈ ms ∨ n ∈ tk) : n < put := by
  have hc := h.cnt n
  rcases hn with hn | hn
  · have := List.count_pos_iff.2 hn
    split at hc <;> omega
  · have := List.count_pos_iff.2 hn
    split at hc <;> omega
theorem OnceI.put {put : Nat} {tk ms : List Nat} (h : OnceI put tk ms) : OnceI (put + 1) tk (ms ++ [put]) := by
  refine ⟨?_, fun n => ?_, ?_⟩
  · rw [List.pairwise_append]
    refine ⟨h.sorted, by simp, fun a ha b hb => ?_⟩
    simp at hb
    subst hb
    exact h.lt (.inl ha)
  · have hc := h.cnt n
    rw [List.count_append]
    by_cases e : n = put
    · subst e
      have hcp : List.count n [n] = 1 := by simp
      rw [hcp, if_pos (by omega)]
      rw [if_neg (by omega)] at hc
      omega
    · have hcp : List.count n [put] = 0 := by
        rw [List.count_eq_zero]; simp [e]
      rw [hcp]
      by_cases hlt : n < put
      · rw [if_pos hlt] at hc; rw [if_pos (by omega)]; omega
      · rw [if_neg hlt] at hc; rw [if_neg (by omega)]; omega
  · rw [List.length_append]
    have := h.len
    simp
    omega
theorem OnceI.take {put : Nat} {tk ms : List Nat} (h : OnceI put tk ms) {p n : Nat} (hp : ms[p]? = some n) : OnceI put (tk ++ [n]) (ms.eraseIdx p) := by
  have hlt : p < ms.length := (List.getElem?_eq_some_iff.1 hp).1
  refine ⟨h.sorted.sublist (List.eraseIdx_sublist ms p), fun k => ?_, ?_⟩
  · have hc := h.cnt k
    have key : ∀ (l : List Nat) (p : Nat), l[p]? = some n → l.count k = (l.eraseIdx p).count k + List.count k [n] := by
      intro l
      induction l with
      | nil => intro p h; simp at h
      | cons a r ih =>
        intro p h
        cases p with
        | zero =>
          simp only [List.getElem?_cons_zero, Option.some.injEq] at h
          subst h
          rw [List.eraseIdx_cons_zero, show a :: r = [a] ++ r from rfl, List.count_append]
          omega
        | succ p =>
          have := ih p (by simpa using h)
          rw [List.eraseIdx_cons_succ, show a :: r = [a] ++ r from rfl, show a :: r.eraseIdx p = [a] ++ r.eraseIdx p from rfl, List.count_append, List.count_append, this]
          omega
    rw [List.count_append, ← hc, key ms p hp]
    omega
  · rw [List.length_append, List.length_eraseIdx_of_lt hlt]
    have := h.len
    simp
    omega
/-- how many are below a number -/
def belowN (ms : List Nat) (n : Nat) : Nat := ms.countP fun m => decide (m < n)
theorem belowN_le (ms : List Nat) (n : Nat) : belowN ms n ≤ ms.length := List.countP_le_length
theorem belowN_zero (ms : List Nat) : belowN ms 0 = 0 := by
  unfold belowN
  rw [List.countP_eq_zero]
  intro a _; simp
/-- in an increasing row, the first one that is not below n -/
theorem belowN_at : ∀ (ms : List Nat) (n : Nat), ms.Pairwise (· < ·) → (∀ m, ms[belowN ms n]? = some m → n ≤ m) ∧ (n ∈ ms → ms[belowN ms n]? = some n ∧ belowN ms (n + 1) = belowN ms n + 1) ∧ (n ∉ ms → belowN ms (n + 1) = belowN ms n)
  | [], n, _ => ⟨fun m h => by simp at h, fun h => by simp at h, fun _ => rfl⟩
  | a :: r, n, hs => by
    obtain ⟨h1, h2⟩ := List.pairwise_cons.1 hs
    obtain ⟨i1, i2, i3⟩ := belowN_at r n h2
    have hc : ∀ k, belowN (a :: r) k = belowN r k + if a < k then 1 else 0 := fun k => by
      unfold belowN
      rw [List.countP_cons]
      simp only [decide_eq_true_eq]
    have hz : ∀ k, k ≤ a → belowN r (k + 1) = 0 ∧ belowN r k = 0 := fun k hk => by
      constructor <;> (unfold belowN; rw [List.countP_eq_zero]; intro b hb; have := h1 b hb; simp; omega)
    by_cases hlt : a < n
    · have e1 : belowN (a :: r) n = belowN r n + 1 := by rw [hc, if_pos hlt]
      have e2 : belowN (a :: r) (n + 1) = belowN r (n + 1) + 1 := by rw [hc, if_pos (by omega)]
      refine ⟨fun m h => i1 m (by rw [e1] at h; simpa using h), fun h => ?_, fun h => ?_⟩
      · have hr : n ∈ r := by
          rcases List.mem_cons.1 h with h | h
          · omega
          · exact h
        obtain ⟨j1, j2⟩ := i2 hr
        exact ⟨by rw [e1]; simpa using j1, by rw [e1, e2, j2]⟩
      · rw [e1, e2, i3 (fun hr => h (List.mem_cons_of_mem _ hr))]
    · have hn := hz n (by omega)
      have e1 : belowN (a :: r) n = 0 := by rw [hc, if_neg hlt, hn.2]
      refine ⟨fun m h => ?_, fun h => ?_, fun h => ?_⟩
      · rw [e1] at h
        simp only [List.getElem?_cons_zero, Option.some.injEq] at h
        omega
      · have hna : n = a := by
          rcases List.mem_cons.1 h with h | h
          · exact h
          · have := h1 n h; omega
        subst hna
        exact ⟨by rw [e1]; rfl, by rw [e1, hc, if_pos (by omega), hn.1]⟩
      · have hna : n ≠ a := fun e => h (e ▸ List.mem_cons_self ..)
        rw [e1, hc, if_neg (by omega), hn.1]
/-- the count of a number in what was taken, and the next one left -/
theorem OnceI.law {put : Nat} {tk ms : List Nat} (h : OnceI put tk ms) {n : Nat} (hn : n < put) : (ms[belowN ms n]? = some n ∧ tk.count n = 0 ∧ belowN ms (n + 1) = belowN ms n + 1) ∨ (ms[belowN ms n]? ≠ some n ∧ tk.count n = 1 ∧ belowN ms (n + 1) = belowN ms n) := by
  obtain ⟨_, h2, h3⟩ := belowN_at ms n h.sorted
  have hc := h.cnt n
  rw [if_pos hn] at hc
  by_cases hm : n ∈ ms
  · have := List.count_pos_iff.2 hm
    exact .inl ⟨(h2 hm).1, by omega, (h2 hm).2⟩
  · have h0 := List.count_eq_zero.2 hm
    exact .inr ⟨fun e => hm (List.mem_of_getElem? e), by omega, h3 hm⟩
end Go.Proofs.Ytgbaelkoblnlhaa
