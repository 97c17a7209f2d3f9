/-
  Terms in new memory, in blocks of a set.
-/
import Derived.Test.YtgbaelkoblnlhaaBook
namespace Go.Proofs.Ytgbaelkoblnlhaa
open Go.RowKit
/-- like NwR, the arrays of the items in blocks of a set -/
def NwX (w : World) (S : Nat → Prop) : TL → List Value → Prop
  | .nil, _ => True
  | .cons f it r, xs => ∃ ao cap rest, xs = f.cells (.slice ao it.len cap) ++ rest ∧ it.len ≤ cap ∧ cap ≤ maxLen ∧
      ((ao = none ∧ cap = 0) ∨ ∃ g cur, ao = some ⟨g, 0, none⟩ ∧ S g ∧ w.heap[g]? = some (.cells cur 24 (0, 0)) ∧ cur.size = cap * 9 ∧ NwX w S it cur.toList) ∧ NwX w S r rest
theorem NwX.keep {w w' : World} {S S' : Nat → Prop} (hS : ∀ b, S b → S' b) (hk : ∀ b, S b → w'.heap[b]? = w.heap[b]?) : ∀ (l : TL) (xs : List Value), NwX w S l xs → NwX w' S' l xs
  | .nil, _, _ => trivial
  | .cons f it r, xs, ⟨ao, cap, rest, e, h1, h2, h3, hr⟩ => by
    refine ⟨ao, cap, rest, e, h1, h2, ?_, NwX.keep hS hk r rest hr⟩
    rcases h3 with h3 | ⟨g, cur, e1, hg, hh, hs, hi⟩
    · exact .inl h3
    · exact .inr ⟨g, cur, e1, hS g hg, (hk g hg).trans hh, hs, NwX.keep hS hk it _ hi⟩
theorem NwX.nwr {w : World} {S : Nat → Prop} {A B : Nat} (hS : ∀ b, S b → A ≤ b ∧ b < B) : ∀ (l : TL) (xs : List Value), NwX w S l xs → NwR w A B l xs
  | .nil, _, _ => trivial
  | .cons f it r, xs, ⟨ao, cap, rest, e, h1, h2, h3, hr⟩ => by
    refine ⟨ao, cap, rest, e, h1, h2, ?_, NwX.nwr hS r rest hr⟩
    rcases h3 with h3 | ⟨g, cur, e1, hg, hh, hs, hi⟩
    · exact .inl h3
    · exact .inr ⟨g, cur, e1, (hS g hg).1, (hS g hg).2, hh, hs, NwX.nwr hS it _ hi⟩
theorem NwR.nwx {w : World} {A B : Nat} : ∀ (l : TL) (xs : List Value), NwR w A B l xs → NwX w (fun b => A ≤ b ∧ b < B) l xs
  | .nil, _, _ => trivial
  | .cons f it r, xs, ⟨ao, cap, rest, e, h1, h2, h3, hr⟩ => by
    refine ⟨ao, cap, rest, e, h1, h2, ?_, NwR.nwx r rest hr⟩
    rcases h3 with h3 | ⟨g, cur, e1, ha, hb, hh, hs, hi⟩
    · exact .inl h3
    · exact .inr ⟨g, cur, e1, ⟨ha, hb⟩, hh, hs, NwR.nwx it _ hi⟩
theorem NwX.app {w : World} {S : Nat → Prop} : ∀ (l m : TL) (xs ys : List Value), NwX w S l xs → xs.length = l.len * 9 → NwX w S m ys → NwX w S (l.app m) (xs ++ ys)
  | .nil, m, xs, ys, _, hl, hm => by
    have : xs = [] := List.eq_nil_of_length_eq_zero (by simpa [TL.len] using hl)
    subst this; exact hm
  | .cons f it r, m, xs, ys, ⟨ao, cap, rest, e, h1, h2, h3, hr⟩, hl, hm => by
    subst e
    rw [List.length_append, cells_len] at hl
    simp only [TL.len] at hl
    exact ⟨ao, cap, rest ++ ys, by rw [List.append_assoc], h1, h2, h3, NwX.app r m rest ys hr (by omega) hm⟩
theorem NwX.single {w : World} {A B : Nat} {f : Fd} {it : TL} {iv : Value} (h : NwS w A B it iv) : NwX w (fun b => A ≤ b ∧ b < B) (.cons f it .nil) (f.cells iv) := by
  have h2 : NwR w A B (.cons f it .nil) (f.cells iv ++ []) := NwR.cons h trivial
  rw [List.append_nil] at h2
  exact NwR.nwx _ _ h2
end Go.Proofs.Ytgbaelkoblnlhaa
