/-
  Terms that lie in blocks of a set: the reading that laws carry.
-/
import Derived.Test.YtgfodedmcjkmaaaDoorPure
namespace Go.Proofs.YtgfodedmcjkmaaaDoor
open Go.RowKit
def RdX (w : World) (S : Nat → Prop) : TL → Nat → Nat → Prop
  | .nil, _, _ => True
  | .cons f it r, b, o => S b ∧ (∃ ao cap, (∀ j v, (f.cells (.slice ao it.len cap))[j]? = some v → w.cell? ⟨b, o + j, none⟩ = some v) ∧ it.len ≤ cap ∧ cap ≤ maxLen ∧ (it ≠ .nil → ∃ b' o', ao = some ⟨b', o', none⟩ ∧ RdX w S it b' o')) ∧ RdX w S r b (o + 9)
def RdXS (w : World) (S : Nat → Prop) (l : TL) (v : Value) : Prop := ∃ ao cap, v = .slice ao l.len cap ∧ l.len ≤ cap ∧ cap ≤ maxLen ∧ (l ≠ .nil → ∃ b o, ao = some ⟨b, o, none⟩ ∧ RdX w S l b o)
theorem RdX.keep {w w' : World} {S S' : Nat → Prop} (hS : ∀ b, S b → S' b) (hk : ∀ b o, S b → w'.cell? ⟨b, o, none⟩ = w.cell? ⟨b, o, none⟩) : ∀ (l : TL) (b o : Nat), RdX w S l b o → RdX w' S' l b o
  | .nil, _, _, _ => trivial
  | .cons f it r, b, o, ⟨hb, ⟨ao, cap, h1, h2, h3, h4⟩, hr⟩ =>
    ⟨hS b hb, ⟨ao, cap, fun j v hj => (hk _ _ hb).trans (h1 j v hj), h2, h3, fun hn => by
      obtain ⟨b', o', e, h⟩ := h4 hn
      exact ⟨b', o', e, RdX.keep hS hk it b' o' h⟩⟩, RdX.keep hS hk r b (o + 9) hr⟩
theorem RdXS.keep2 {w w' : World} {S S' : Nat → Prop} {l : TL} {v : Value} (h : RdXS w S l v) (hS : ∀ b, S b → S' b) (hk : ∀ b o, S b → w'.cell? ⟨b, o, none⟩ = w.cell? ⟨b, o, none⟩) : RdXS w' S' l v := by
  obtain ⟨ao, cap, e, h1, h2, h3⟩ := h
  exact ⟨ao, cap, e, h1, h2, fun hn => (h3 hn).imp fun b hb => hb.imp fun o ho => ⟨ho.1, RdX.keep hS hk l b o ho.2⟩⟩
theorem RdXS.mono {w : World} {S S' : Nat → Prop} {l : TL} {v : Value} (h : RdXS w S l v) (hS : ∀ b, S b → S' b) : RdXS w S' l v := h.keep2 hS fun _ _ _ => rfl
theorem RdXS.below {w w' : World} {S : Nat → Prop} {C : Nat} {l : TL} {v : Value} (h : RdXS w S l v) (hb : Below C w w') (hC : ∀ b, S b → b < C) : RdXS w' S l v := h.keep2 (fun _ h => h) fun b o hs => below_cells hb (Nat.le_refl _) b o (hC b hs)
theorem RdXS.set {w : World} {S : Nat → Prop} {L k : Nat} {u : Value} {l : TL} {v : Value} (h : RdXS w S l v) (hL : ¬ S L) : RdXS (w.setCell ⟨L, k, none⟩ u) S l v :=
  h.keep2 (fun _ h => h) fun b o hs => World.cell?_of_block (Below.heap_setCell _ _ _ _ (by intro e; simp only at e; subst e; exact hL hs))
theorem RdX.rd {w : World} {S : Nat → Prop} {A B : Nat} (hS : ∀ b, S b → A ≤ b ∧ b < B) : ∀ (l : TL) (b o : Nat), RdX w S l b o → Rd w A B l b o
  | .nil, _, _, _ => trivial
  | .cons f it r, b, o, ⟨hb, ⟨ao, cap, h1, h2, h3, h4⟩, hr⟩ =>
    ⟨(hS b hb).1, (hS b hb).2, ⟨ao, cap, h1, h2, h3, fun hn => by
      obtain ⟨b', o', e, h⟩ := h4 hn
      exact ⟨b', o', e, RdX.rd hS it b' o' h⟩⟩, RdX.rd hS r b (o + 9) hr⟩
theorem RdXS.rds {w : World} {S : Nat → Prop} {A B : Nat} {l : TL} {v : Value} (h : RdXS w S l v) (hS : ∀ b, S b → A ≤ b ∧ b < B) : RdS w A B l v := by
  obtain ⟨ao, cap, e, h1, h2, h3⟩ := h
  exact ⟨ao, cap, e, h1, h2, fun hn => (h3 hn).imp fun b hb => hb.imp fun o ho => ⟨ho.1, RdX.rd hS l b o ho.2⟩⟩
theorem RdXS.rd0 {w : World} {S : Nat → Prop} {B : Nat} {l : TL} {v : Value} (h : RdXS w S l v) (hS : ∀ b, S b → b < B) : RdS w 0 B l v := h.rds fun b hb => ⟨Nat.zero_le _, hS b hb⟩
theorem Rd.rdx {w : World} {S : Nat → Prop} {A B : Nat} (hS : ∀ b, A ≤ b → b < B → S b) : ∀ (l : TL) (b o : Nat), Rd w A B l b o → RdX w S l b o
  | .nil, _, _, _ => trivial
  | .cons f it r, b, o, ⟨ha, hb, ⟨ao, cap, h1, h2, h3, h4⟩, hr⟩ =>
    ⟨hS b ha hb, ⟨ao, cap, h1, h2, h3, fun hn => by
      obtain ⟨b', o', e, h⟩ := h4 hn
      exact ⟨b', o', e, Rd.rdx hS it b' o' h⟩⟩, Rd.rdx hS r b (o + 9) hr⟩
theorem RdS.x {w : World} {S : Nat → Prop} {A B : Nat} {l : TL} {v : Value} (h : RdS w A B l v) (hS : ∀ b, A ≤ b → b < B → S b) : RdXS w S l v := by
  obtain ⟨ao, cap, e, h1, h2, h3⟩ := h
  exact ⟨ao, cap, e, h1, h2, fun hn => (h3 hn).imp fun b hb => hb.imp fun o ho => ⟨ho.1, Rd.rdx hS l b o ho.2⟩⟩
theorem RdXS.nil (w : World) (S : Nat → Prop) : RdXS w S .nil (.slice none 0 0) := ⟨none, 0, rfl, Nat.le_refl _, by unfold maxLen; omega, fun h => absurd rfl h⟩
theorem RdXS.slice {w : World} {S : Nat → Prop} {l : TL} {v : Value} (h : RdXS w S l v) : ∃ ai ci, v = .slice ai l.len ci := by
  obtain ⟨ao, cap, e, _⟩ := h; exact ⟨ao, cap, e⟩
/-- cells whose items lie in blocks of a set -/
def RdXL (w : World) (S : Nat → Prop) : TL → List Value → Prop
  | .nil, xs => xs = []
  | .cons f it r, xs => ∃ iv rest, xs = f.cells iv ++ rest ∧ RdXS w S it iv ∧ RdXL w S r rest
theorem RdXL.len {w : World} {S : Nat → Prop} : ∀ {l : TL} {xs : List Value}, RdXL w S l xs → xs.length = l.len * 9
  | .nil, _, h => by rw [h]; rfl
  | .cons f it r, _, ⟨iv, rest, e, _, hr⟩ => by
    rw [e, List.length_append, cells_len, RdXL.len hr]; simp only [TL.len]; omega
theorem RdXL.one {w : World} {S : Nat → Prop} : ∀ {l : TL} {xs : List Value}, RdXL w S l xs → ∀ u ∈ xs, u.oneCell' = true
  | .nil, _, h, u, hu => by rw [h] at hu; cases hu
  | .cons f it r, _, ⟨iv, rest, e, hi, hr⟩, u, hu => by
    rw [e, List.mem_append] at hu
    rcases hu with hu | hu
    · obtain ⟨ai, ci, rfl⟩ := hi.slice
      exact cells_one f ai it.len ci u hu
    · exact RdXL.one hr u hu
theorem RdXL.keep2 {w w' : World} {S S' : Nat → Prop} (hS : ∀ b, S b → S' b) (hk : ∀ b o, S b → w'.cell? ⟨b, o, none⟩ = w.cell? ⟨b, o, none⟩) : ∀ {l : TL} {xs : List Value}, RdXL w S l xs → RdXL w' S' l xs
  | .nil, _, h => h
  | .cons _ _ _, _, ⟨iv, rest, e, hi, hr⟩ => ⟨iv, rest, e, hi.keep2 hS hk, RdXL.keep2 hS hk hr⟩
theorem RdXL.app {w : World} {S : Nat → Prop} : ∀ {l m : TL} {xs ys : List Value}, RdXL w S l xs → RdXL w S m ys → RdXL w S (l.app m) (xs ++ ys)
  | .nil, _, _, _, h, hm => by rw [h]; exact hm
  | .cons f it r, _, _, _, ⟨iv, rest, e, hi, hr⟩, hm => ⟨iv, rest ++ _, by rw [e, List.append_assoc], hi, RdXL.app hr hm⟩
theorem RdXL.single {w : World} {S : Nat → Prop} {f : Fd} {it : TL} {iv : Value} (h : RdXS w S it iv) : RdXL w S (.cons f it .nil) (f.cells iv) := ⟨iv, [], by rw [List.append_nil], h, rfl⟩
theorem RdX.list {w : World} {S : Nat → Prop} : ∀ (l : TL) (b o : Nat), RdX w S l b o → ∃ xs, RdXL w S l xs ∧ ∀ j u, xs[j]? = some u → w.cell? ⟨b, o + j, none⟩ = some u
  | .nil, _, _, _ => ⟨[], rfl, fun j u h => by cases h⟩
  | .cons f it r, b, o, ⟨_, ⟨ao, cap, h1, h2, h3, h4⟩, hr⟩ => by
    obtain ⟨ys, hy, hc⟩ := RdX.list r b (o + 9) hr
    refine ⟨f.cells (.slice ao it.len cap) ++ ys, ⟨_, ys, rfl, ⟨ao, cap, rfl, h2, h3, h4⟩, hy⟩, fun j u hj => ?_⟩
    rcases Nat.lt_or_ge j 9 with hlt | hge
    · rw [List.getElem?_append_left (by rw [cells_len]; exact hlt)] at hj
      exact h1 j u hj
    · rw [List.getElem?_append_right (by rw [cells_len]; exact hge), cells_len] at hj
      rw [show o + j = o + 9 + (j - 9) by omega]
      exact hc _ _ hj
theorem RdXS.list {w : World} {S : Nat → Prop} {l : TL} {ao : Option Addr} {n c : Nat} (h : RdXS w S l (.slice ao n c)) : n = l.len ∧ ∃ xs, RdXL w S l xs ∧ (ao = none → n = 0) ∧ ∀ ad, ao = some ad → ∀ j u, xs[j]? = some u → w.cell? (ad.add j) = some u := by
  obtain ⟨ao', c', e, h1, h2, h3⟩ := h
  injection e with e1 e2 e3
  subst e1 e2 e3
  refine ⟨rfl, ?_⟩
  by_cases hn : l = .nil
  · subst hn
    exact ⟨[], rfl, fun _ => rfl, fun ad _ j u hu => by cases hu⟩
  · obtain ⟨b, o, e, hr⟩ := h3 hn
    obtain ⟨xs, hx, hc⟩ := RdX.list l b o hr
    subst e
    refine ⟨xs, hx, (fun h => by cases h), fun ad had j u hu => ?_⟩
    injection had with had
    subst had
    have h := hc j u hu
    unfold Addr.add
    split
    · rename_i h0; subst h0; exact h
    · exact h
theorem RdXL.rdx {w : World} {S : Nat → Prop} : ∀ (l : TL) (xs : List Value) (b o : Nat), RdXL w S l xs → S b → (∀ j u, xs[j]? = some u → w.cell? ⟨b, o + j, none⟩ = some u) → RdX w S l b o
  | .nil, _, _, _, _, _, _ => trivial
  | .cons f it r, xs, b, o, ⟨iv, rest, e, hi, hr⟩, hb, hc => by
    subst e
    obtain ⟨ao, cap, rfl, h1, h2, h3⟩ := hi
    refine ⟨hb, ⟨ao, cap, fun j v hj => hc j v ?_, h1, h2, h3⟩, RdXL.rdx r rest b (o + 9) hr hb fun j u hu => ?_⟩
    · rw [List.getElem?_append_left (by
        rcases Nat.lt_or_ge j (f.cells (.slice ao it.len cap)).length with h | h
        · exact h
        · rw [List.getElem?_eq_none h] at hj; cases hj)]
      exact hj
    · have := hc (9 + j) u (by rw [List.getElem?_append_right (by rw [cells_len]; omega), cells_len, show 9 + j - 9 = j by omega]; exact hu)
      rw [show o + 9 + j = o + (9 + j) by omega]; exact this
/-- a row that a call owns, read: its block and its items' blocks lie in the set -/
theorem RdXS.of_owns {w : World} {S : Nat → Prop} {C g cap : Nat} {l : TL} {n : Nat} {xs : List Value} (h : w.ownsRow C 24 9 (.slice (some ⟨g, 0, none⟩) n cap) n xs) (hn : n = l.len) (hg : S g) (hr : RdXL w S l xs) : RdXS w S l (.slice (some ⟨g, 0, none⟩) n cap) := by
  subst hn
  obtain ⟨hl, ⟨e, _⟩ | ⟨g', cap', cur, e, _, hh, hc, hm, hs, ht⟩⟩ := h
  · cases e
  · injection e with e1 e2 e3
    injection e1 with e1
    injection e1 with e1 _ _
    subst e1 e3
    refine ⟨_, cap, rfl, hc, hm, fun _ => ⟨g, 0, rfl, RdXL.rdx l xs g 0 hr hg fun j u hu => ?_⟩⟩
    rw [cells_of hh, Nat.zero_add]
    rw [← ht, List.getElem?_take] at hu
    split at hu
    · simpa using hu
    · cases hu
/-- the k-th term of a row -/
theorem RdX.at_ {w : World} {S : Nat → Prop} : ∀ (l : TL) (b o k : Nat) (f : Fd) (it r : TL), RdX w S l b o → l.drop k = .cons f it r →
    S b ∧ ∃ ai ci, (∀ j v, (f.cells (.slice ai it.len ci))[j]? = some v → w.cell? ⟨b, o + k * 9 + j, none⟩ = some v) ∧ RdXS w S it (.slice ai it.len ci)
  | .nil, _, _, 0, _, _, _, _, h => by simp [TL.drop] at h
  | .nil, _, _, _ + 1, _, _, _, _, h => by simp [TL.drop] at h
  | .cons f' it' r', b, o, 0, f, it, r, ⟨hb, ⟨ao, cap, h1, h2, h3, h4⟩, _⟩, h => by
    rw [TL.drop] at h
    injection h with e1 e2 e3
    subst e1 e2
    exact ⟨hb, ao, cap, fun j v hj => by rw [Nat.zero_mul, Nat.add_zero]; exact h1 j v hj, ⟨ao, cap, rfl, h2, h3, h4⟩⟩
  | .cons f' it' r', b, o, k + 1, f, it, r, ⟨_, _, hr⟩, h => by
    obtain ⟨hb, ai, ci, h1, h2⟩ := RdX.at_ r' b (o + 9) k f it r hr h
    exact ⟨hb, ai, ci, fun j v hj => by rw [show o + (k + 1) * 9 + j = o + 9 + k * 9 + j by omega]; exact h1 j v hj, h2⟩
end Go.Proofs.YtgfodedmcjkmaaaDoor
