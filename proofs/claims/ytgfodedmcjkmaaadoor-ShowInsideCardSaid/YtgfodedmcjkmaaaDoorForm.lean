/-
  Well-formed terms and their sizes: the plain law. No program in sight but the words of the closures.
-/
import Derived.Test.YtgfodedmcjkmaaaDoorKind9
import Derived.Test.YtgfodedmcjkmaaaDoorKind10
namespace Go.Proofs.YtgfodedmcjkmaaaDoor
open Go.RowKit
/-- what each kind asks of a term's own fields -/
def okK (f : Fd) (it : TL) : Bool :=
  if f.k = 1 then true
  else if f.k = 2 then nameB f.nm
  else if f.k = 3 ∨ f.k = 6 then withinB f.i 1 2147483647 && withinB f.g 1 2147483647 && nameB f.nm
  else if f.k = 4 then withinB f.i 0 999 && withinB f.g 1 2147483647 && nameB f.nm && withinB f.ar 0 16 && decide ((it.len : Int) ≤ 200)
  else if f.k = 5 then nameB f.nm && nameB f.fn && withinB f.ar 0 16
  else if f.k = 7 then decide (it.len ≤ 255)
  else if f.k = 8 then true
  else if f.k = 9 then decide (2 ≤ it.len) && it.lastK != 9
  else if f.k = 10 then withinB f.n 0 16384 && validB f.bs f.n
  else false
/-- the term without the fields that its kind uses -/
def bareF (f : Fd) : Fd :=
  if f.k = 1 then {f with k := 0, i := 0}
  else if f.k = 2 then {f with k := 0, nm := ⟨#[]⟩}
  else if f.k = 3 ∨ f.k = 6 then {f with k := 0, i := 0, g := 0, nm := ⟨#[]⟩}
  else if f.k = 4 then {f with k := 0, i := 0, g := 0, nm := ⟨#[]⟩, ar := 0}
  else if f.k = 5 then {f with k := 0, nm := ⟨#[]⟩, fn := ⟨#[]⟩, ar := 0}
  else if f.k = 10 then {f with k := 0, bs := ⟨#[]⟩, n := 0}
  else {f with k := 0}
def dropsK (k : Int) : Bool := decide (k = 4) || decide (k = 7) || decide (k = 9)
def bareN (f : Fd) (n : Nat) : Nat := if dropsK f.k then 0 else n
def Fd.zero : Fd := ⟨0, 0, 0, ⟨#[]⟩, ⟨#[]⟩, 0, ⟨#[]⟩, 0⟩
/-- all fields zero -/
noncomputable def zeroB (f : Fd) (n : Nat) : Bool := f.same Fd.zero && decide (n = 0)
/-- one node of a well-formed term -/
noncomputable def nodeB (f : Fd) (it : TL) : Bool := zeroB (bareF f) (bareN f it.len) && okK f it
noncomputable def formL : TL → Bool
  | .nil => true
  | .cons f it r => nodeB f it && formL it && formL r
noncomputable def formT (f : Fd) (it : TL) : Bool := nodeB f it && formL it
theorem formL_cons (f : Fd) (it r : TL) : formL (.cons f it r) = (formT f it && formL r) := rfl
/-- a term's own part of its size -/
def baseN (f : Fd) (n : Nat) : Nat := if f.k = 9 then n - 1 else if f.k = 10 then 1 + (f.n.toNat + 63) / 64 else 1
def wholeL : TL → Nat
  | .nil => 0
  | .cons f it r => baseN f it.len + wholeL it + wholeL r
def wholeT (f : Fd) (it : TL) : Nat := baseN f it.len + wholeL it
theorem wholeL_cons (f : Fd) (it r : TL) : wholeL (.cons f it r) = wholeT f it + wholeL r := rfl
theorem formL_drop {l : TL} {k : Nat} {f : Fd} {it r : TL} (h : l.drop k = .cons f it r) (h2 : formL l = formL (l.drop k)) : formL l = (formT f it && formL r) := by rw [h2, h, formL_cons]
theorem node_ok {f : Fd} {it : TL} (h : nodeB f it = true) : okK f it = true := by
  unfold nodeB at h; rw [Bool.and_eq_true] at h; exact h.2
theorem form_node {f : Fd} {it : TL} (h : formT f it = true) : nodeB f it = true ∧ formL it = true := by
  unfold formT at h; rw [Bool.and_eq_true] at h; exact h
theorem ok_bits {f : Fd} {it : TL} (h : okK f it = true) (hk : f.k = 10) : 0 ≤ f.n ∧ f.n ≤ 16384 ∧ validB f.bs f.n = true := by
  unfold okK withinB at h
  rw [hk] at h
  simp at h
  exact ⟨h.1.1, h.1.2, h.2⟩
theorem ok_list {f : Fd} {it : TL} (h : okK f it = true) (hk : f.k = 9) : 2 ≤ it.len ∧ it.lastK ≠ 9 := by
  unfold okK at h
  rw [hk] at h
  simp at h
  exact h
theorem base_le {f : Fd} {it : TL} (h : okK f it = true) : baseN f it.len ≤ 257 + it.len ∧ 1 ≤ baseN f it.len := by
  unfold baseN
  by_cases h9 : f.k = 9
  · rw [if_pos h9]; have := (ok_list h h9).1; omega
  · rw [if_neg h9]
    by_cases h10 : f.k = 10
    · rw [if_pos h10]; have := ok_bits h h10; omega
    · rw [if_neg h10]; omega
theorem wholeL_le : ∀ l : TL, formL l = true → wholeL l + l.len ≤ 260 * l.cnt
  | .nil, _ => by simp [wholeL, TL.len, TL.cnt]
  | .cons f it r, h => by
    rw [formL_cons, Bool.and_eq_true] at h
    obtain ⟨hn, hi⟩ := form_node h.1
    have h1 := wholeL_le it hi
    have h2 := wholeL_le r h.2
    have h3 := base_le (node_ok hn)
    simp only [wholeL, TL.len, TL.cnt]
    omega
theorem wholeT_pos {f : Fd} {it : TL} (h : formT f it = true) : 1 ≤ wholeT f it := by
  have := base_le (node_ok (form_node h).1)
  unfold wholeT; omega
theorem wholeT_le {f : Fd} {it : TL} (h : formT f it = true) : wholeT f it ≤ 260 * (it.cnt + 1) := by
  obtain ⟨hn, hi⟩ := form_node h
  have h1 := wholeL_le it hi
  have h3 := base_le (node_ok hn)
  unfold wholeT; omega
theorem formL_app : ∀ l m : TL, formL (l.app m) = (formL l && formL m)
  | .nil, m => by simp [TL.app, formL]
  | .cons f it r, m => by simp only [TL.app, formL]; rw [formL_app r m]; simp [Bool.and_assoc]
theorem wholeL_app : ∀ l m : TL, wholeL (l.app m) = wholeL l + wholeL m
  | .nil, m => by simp [TL.app, wholeL]
  | .cons f it r, m => by simp only [TL.app, wholeL]; rw [wholeL_app r m]; omega
theorem cnt_app : ∀ l m : TL, (l.app m).cnt = l.cnt + m.cnt
  | .nil, m => by simp [TL.app, TL.cnt]
  | .cons f it r, m => by simp only [TL.app, TL.cnt, cnt_app r m]; omega
theorem app_assoc : ∀ l m n : TL, (l.app m).app n = l.app (m.app n)
  | .nil, _, _ => rfl
  | .cons f it r, m, n => by simp only [TL.app, app_assoc r m n]
theorem take_drop : ∀ (l : TL) (k : Nat), (l.take k).app (l.drop k) = l
  | .nil, 0 => rfl
  | .nil, _ + 1 => rfl
  | .cons _ _ _, 0 => rfl
  | .cons f it r, k + 1 => by simp only [TL.take, TL.drop, TL.app, take_drop r k]
theorem take_all : ∀ (l : TL) (k : Nat), l.len ≤ k → l.take k = l
  | .nil, 0, _ => rfl
  | .nil, _ + 1, _ => rfl
  | .cons _ _ r, 0, h => by simp [TL.len] at h
  | .cons f it r, k + 1, h => by rw [TL.take, take_all r k (by simp only [TL.len] at h; omega)]
theorem take_snoc : ∀ (l : TL) (k : Nat) (f : Fd) (it r : TL), l.drop k = .cons f it r → l.take (k + 1) = (l.take k).app (.cons f it .nil)
  | .nil, 0, _, _, _, h => by simp [TL.drop] at h
  | .nil, _ + 1, _, _, _, h => by simp [TL.drop] at h
  | .cons f' it' r', 0, f, it, r, h => by
    rw [TL.drop] at h; injection h with a b c; subst a b
    show TL.cons f' it' (r'.take 0) = _
    rw [TL.take_zero, TL.take_zero]; rfl
  | .cons f' it' r', k + 1, f, it, r, h => by
    rw [TL.take, take_snoc r' k f it r h]; rfl
theorem take_len : ∀ (l : TL) (k : Nat), k ≤ l.len → (l.take k).len = k
  | l, 0, _ => by rw [TL.take_zero]; rfl
  | .nil, k + 1, h => by simp [TL.len] at h
  | .cons f it r, k + 1, h => by rw [TL.take, TL.len, take_len r k (by simp only [TL.len] at h; omega)]
theorem drop_len2 : ∀ (l : TL) (k : Nat), (l.drop k).len = l.len - k
  | .nil, 0 => rfl
  | .nil, k + 1 => by simp [TL.drop, TL.len]
  | .cons _ _ _, 0 => by rw [TL.drop_zero]; omega
  | .cons f it r, k + 1 => by rw [TL.drop, drop_len2 r k, TL.len]; omega
theorem drop_snoc {l : TL} {k : Nat} {f : Fd} {it r : TL} (h : l.drop k = .cons f it r) : l.drop (k + 1) = r := by
  obtain ⟨f', it', e⟩ := TL.drop_at l k (by
    have := drop_len2 l k; rw [h] at this; simp only [TL.len] at this; omega)
  rw [h] at e; injection e with a b c; exact c.symm
theorem lastK_snoc : ∀ (l : TL) (f : Fd) (it : TL), (l.app (.cons f it .nil)).lastK = f.k
  | .nil, _, _ => rfl
  | .cons _ _ .nil, _, _ => rfl
  | .cons _ _ (.cons f2 it2 r2), f, it => by
    show (TL.cons f2 it2 (r2.app _)).lastK = _
    exact lastK_snoc (.cons f2 it2 r2) f it
theorem lastK_app : ∀ (l m : TL), m ≠ .nil → (l.app m).lastK = m.lastK
  | .nil, _, _ => rfl
  | .cons f it .nil, .nil, h => absurd rfl h
  | .cons f it .nil, .cons f2 it2 r2, _ => rfl
  | .cons f it (.cons f2 it2 r2), m, h => by
    show (TL.cons f2 it2 (r2.app m)).lastK = _
    exact lastK_app (.cons f2 it2 r2) m h
/-- the state that Check answers -/
noncomputable def checkF (f : Fd) (it : TL) : Int := if formT f it then (if 2000 < wholeT f it then 3 else 0) else 2
noncomputable def validF (f : Fd) (it : TL) : Bool := formT f it && decide (wholeT f it ≤ 2000)
noncomputable def sizeF (f : Fd) (it : TL) : Int := if formT f it then ((min (wholeT f it) 2001 : Nat) : Int) else 0
theorem check_valid (f : Fd) (it : TL) : (checkF f it == 0) = validF f it := by
  unfold checkF validF
  cases h : formT f it
  · simp
  · by_cases h2 : 2000 < wholeT f it
    · simp [h2]
    · simp [h2]; omega
end Go.Proofs.YtgfodedmcjkmaaaDoor
