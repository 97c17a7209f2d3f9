/-
  Terms in new memory: rows that lie at the head of blocks of their own; what may be spoilt.
-/
import Derived.Test.YtgfodedmcjkmaaaDoorForm
import Derived.Laws.AppendOwn
namespace Go.Proofs.YtgfodedmcjkmaaaDoor
open Go.RowKit
/-- the cells of a row read as these terms; the arrays of their items lie in blocks from A on, below B, each at its block's head -/
def NwR (w : World) (A B : Nat) : TL → List Value → Prop
  | .nil, _ => True
  | .cons f it r, xs => ∃ ao cap rest, xs = f.cells (.slice ao it.len cap) ++ rest ∧ it.len ≤ cap ∧ cap ≤ maxLen ∧
      ((ao = none ∧ cap = 0) ∨ ∃ g cur, ao = some ⟨g, 0, none⟩ ∧ A ≤ g ∧ g < B ∧ w.heap[g]? = some (.cells cur 24 (0, 0)) ∧ cur.size = cap * 9 ∧ NwR w A B it cur.toList) ∧ NwR w A B r rest
def NwS (w : World) (A B : Nat) (l : TL) (v : Value) : Prop := ∃ ao cap, v = .slice ao l.len cap ∧ l.len ≤ cap ∧ cap ≤ maxLen ∧
    ((ao = none ∧ cap = 0) ∨ ∃ g cur, ao = some ⟨g, 0, none⟩ ∧ A ≤ g ∧ g < B ∧ w.heap[g]? = some (.cells cur 24 (0, 0)) ∧ cur.size = cap * 9 ∧ NwR w A B l cur.toList)
def NwT (w : World) (A B : Nat) (f : Fd) (it : TL) (v : Value) : Prop := ∃ iv, v = f.val iv ∧ NwS w A B it iv
theorem NwR.cons {w : World} {A B : Nat} {f : Fd} {it r : TL} {iv : Value} {rest : List Value} (h : NwS w A B it iv) (hr : NwR w A B r rest) : NwR w A B (.cons f it r) (f.cells iv ++ rest) := by
  obtain ⟨ao, cap, rfl, h1, h2, h3⟩ := h
  exact ⟨ao, cap, rest, rfl, h1, h2, h3, hr⟩
theorem NwR.uncons {w : World} {A B : Nat} {f : Fd} {it r : TL} {xs : List Value} (h : NwR w A B (.cons f it r) xs) : ∃ iv rest, xs = f.cells iv ++ rest ∧ NwS w A B it iv ∧ NwR w A B r rest := by
  obtain ⟨ao, cap, rest, e, h1, h2, h3, hr⟩ := h
  exact ⟨_, rest, e, ⟨ao, cap, rfl, h1, h2, h3⟩, hr⟩
theorem NwR.keep {w w' : World} {A B : Nat} (hk : ∀ k, A ≤ k → k < B → w'.heap[k]? = w.heap[k]?) : ∀ (l : TL) (xs : List Value), NwR w A B l xs → NwR w' A B l xs
  | .nil, _, _ => trivial
  | .cons f it r, xs, ⟨ao, cap, rest, e, h1, h2, h3, hr⟩ => by
    refine ⟨ao, cap, rest, e, h1, h2, ?_, NwR.keep hk r rest hr⟩
    rcases h3 with h3 | ⟨g, cur, e1, ha, hb, hh, hs, hi⟩
    · exact .inl h3
    · exact .inr ⟨g, cur, e1, ha, hb, (hk g ha hb).trans hh, hs, NwR.keep hk it _ hi⟩
theorem NwR.wide {w : World} {A B A' B' : Nat} (hA : A' ≤ A) (hB : B ≤ B') : ∀ (l : TL) (xs : List Value), NwR w A B l xs → NwR w A' B' l xs
  | .nil, _, _ => trivial
  | .cons f it r, xs, ⟨ao, cap, rest, e, h1, h2, h3, hr⟩ => by
    refine ⟨ao, cap, rest, e, h1, h2, ?_, NwR.wide hA hB r rest hr⟩
    rcases h3 with h3 | ⟨g, cur, e1, ha, hb, hh, hs, hi⟩
    · exact .inl h3
    · exact .inr ⟨g, cur, e1, by omega, by omega, hh, hs, NwR.wide hA hB it _ hi⟩
theorem NwS.keep {w w' : World} {A B : Nat} {l : TL} {v : Value} (h : NwS w A B l v) (hk : ∀ k, A ≤ k → k < B → w'.heap[k]? = w.heap[k]?) : NwS w' A B l v := by
  obtain ⟨ao, cap, e, h1, h2, h3⟩ := h
  refine ⟨ao, cap, e, h1, h2, ?_⟩
  rcases h3 with h3 | ⟨g, cur, e1, ha, hb, hh, hs, hi⟩
  · exact .inl h3
  · exact .inr ⟨g, cur, e1, ha, hb, (hk g ha hb).trans hh, hs, NwR.keep hk l _ hi⟩
theorem NwS.wide {w : World} {A B A' B' : Nat} {l : TL} {v : Value} (h : NwS w A B l v) (hA : A' ≤ A) (hB : B ≤ B') : NwS w A' B' l v := by
  obtain ⟨ao, cap, e, h1, h2, h3⟩ := h
  refine ⟨ao, cap, e, h1, h2, ?_⟩
  rcases h3 with h3 | ⟨g, cur, e1, ha, hb, hh, hs, hi⟩
  · exact .inl h3
  · exact .inr ⟨g, cur, e1, by omega, by omega, hh, hs, NwR.wide hA hB l _ hi⟩
theorem NwS.below {w w' : World} {A B C : Nat} {l : TL} {v : Value} (h : NwS w A B l v) (hb : Below C w w') (hC : B ≤ C) : NwS w' A B l v := h.keep fun k _ hk => hb.block k (by omega)
theorem NwR.below {w w' : World} {A B C : Nat} {l : TL} {xs : List Value} (h : NwR w A B l xs) (hb : Below C w w') (hC : B ≤ C) : NwR w' A B l xs := NwR.keep (fun k _ hk => hb.block k (by omega)) l xs h
theorem NwS.nil (w : World) (A B : Nat) : NwS w A B .nil (.slice none 0 0) := ⟨none, 0, rfl, Nat.le_refl _, by unfold maxLen; omega, .inl ⟨rfl, rfl⟩⟩
theorem NwR.more {w : World} {A B : Nat} : ∀ (l : TL) (xs ys : List Value), NwR w A B l xs → NwR w A B l (xs ++ ys)
  | .nil, _, _, _ => trivial
  | .cons f it r, xs, ys, ⟨ao, cap, rest, e, h1, h2, h3, hr⟩ => ⟨ao, cap, rest ++ ys, by rw [e, List.append_assoc], h1, h2, h3, NwR.more r rest ys hr⟩
theorem cells_len (f : Fd) (iv : Value) : (f.cells iv).length = 9 := rfl
theorem NwR.app {w : World} {A B : Nat} : ∀ (l m : TL) (xs ys : List Value), NwR w A B l xs → xs.length = l.len * 9 → NwR w A B m ys → NwR w A B (l.app m) (xs ++ ys)
  | .nil, m, xs, ys, _, hl, hm => by
    have : xs = [] := List.eq_nil_of_length_eq_zero (by simpa [TL.len] using hl)
    subst this; exact hm
  | .cons f it r, m, xs, ys, h, hl, hm => by
    obtain ⟨iv, rest, rfl, hi, hr⟩ := NwR.uncons h
    rw [List.append_assoc]
    refine NwR.cons hi (NwR.app r m rest ys hr ?_ hm)
    rw [List.length_append, cells_len] at hl
    simp only [TL.len] at hl
    omega
theorem NwR.snoc {w : World} {A B : Nat} {l : TL} {xs : List Value} {f : Fd} {it : TL} {iv : Value} (h : NwR w A B l xs) (hl : xs.length = l.len * 9) (hi : NwS w A B it iv) : NwR w A B (l.app (.cons f it .nil)) (xs ++ f.cells iv) := by
  have h2 : NwR w A B (.cons f it .nil) (f.cells iv ++ []) := NwR.cons hi trivial
  rw [List.append_nil] at h2
  exact NwR.app l _ xs _ h hl h2
theorem NwR.drop {w : World} {A B : Nat} : ∀ (l : TL) (k : Nat) (xs : List Value), NwR w A B l xs → NwR w A B (l.drop k) (xs.drop (9 * k))
  | .nil, 0, _, _ => trivial
  | .nil, _ + 1, _, _ => trivial
  | .cons f it r, 0, xs, h => h
  | .cons f it r, k + 1, xs, h => by
    obtain ⟨iv, rest, rfl, hi, hr⟩ := NwR.uncons h
    have e : (f.cells iv ++ rest).drop 9 = rest := rfl
    rw [TL.drop, show 9 * (k + 1) = 9 + 9 * k by omega, ← List.drop_drop, e]
    exact NwR.drop r k rest hr
/-- what lies in new memory, read -/
theorem NwR.rd {w : World} {A B : Nat} : ∀ (l : TL) (xs : List Value) (b o : Nat), NwR w A B l xs → A ≤ b → b < B → (∀ j u, xs[j]? = some u → w.cell? ⟨b, o + j, none⟩ = some u) → Rd w A B l b o
  | .nil, _, _, _, _, _, _, _ => trivial
  | .cons f it r, xs, b, o, ⟨ao, cap, rest, e, h1, h2, h3, hr⟩, ha, hb, hc => by
    subst e
    refine ⟨ha, hb, ⟨ao, cap, fun j v hj => hc j v ?_, h1, h2, fun hn => ?_⟩, NwR.rd r rest b (o + 9) hr ha hb fun j u hu => ?_⟩
    · rw [List.getElem?_append_left (by
        rcases Nat.lt_or_ge j (f.cells (.slice ao it.len cap)).length with h | h
        · exact h
        · rw [List.getElem?_eq_none h] at hj; cases hj)]
      exact hj
    · rcases h3 with ⟨_, h3⟩ | ⟨g, cur, e1, ga, gb, hh, hs, hi⟩
      · exact absurd (TL.len_zero (by omega)) hn
      · refine ⟨g, 0, e1, NwR.rd it cur.toList g 0 hi ga gb fun j u hu => ?_⟩
        rw [cells_of hh, Nat.zero_add]
        simpa using hu
    · have := hc (9 + j) u (by rw [List.getElem?_append_right (by rw [cells_len]; omega), cells_len, show 9 + j - 9 = j by omega]; exact hu)
      rw [show o + 9 + j = o + (9 + j) by omega]; exact this
theorem NwS.rds {w : World} {A B : Nat} {l : TL} {v : Value} (h : NwS w A B l v) : RdS w A B l v := by
  obtain ⟨ao, cap, e, h1, h2, h3⟩ := h
  refine ⟨ao, cap, e, h1, h2, fun hn => ?_⟩
  rcases h3 with ⟨_, h3⟩ | ⟨g, cur, e1, ga, gb, hh, hs, hi⟩
  · exact absurd (TL.len_zero (by omega)) hn
  · refine ⟨g, 0, e1, NwR.rd l cur.toList g 0 hi ga gb fun j u hu => ?_⟩
    rw [cells_of hh, Nat.zero_add]
    simpa using hu
theorem NwT.rdt {w : World} {A B : Nat} {f : Fd} {it : TL} {v : Value} (h : NwT w A B f it v) : RdT w A B f it v := by
  obtain ⟨iv, e, h⟩ := h
  exact ⟨iv, e, h.rds⟩
/-- a row that a call owns, as new memory -/
theorem NwS.of_owns {w : World} {A B C : Nat} {l : TL} {v : Value} {n : Nat} {xs : List Value} (h : w.ownsRow C 24 9 v n xs) (hn : n = l.len) (hA : A ≤ C) (hB : w.heap.size ≤ B) (hr : NwR w A B l xs) : NwS w A B l v := by
  subst hn
  obtain ⟨_, h | ⟨g, cap, cur, e, hg, hh, hc, hm, hs, ht⟩⟩ := h
  · obtain ⟨e, h0⟩ := h
    exact ⟨none, 0, by rw [e, h0], by omega, by unfold maxLen; omega, .inl ⟨rfl, rfl⟩⟩
  · have hlt := lt_of_block hh
    refine ⟨_, cap, e, hc, hm, .inr ⟨g, cur, rfl, by omega, by omega, hh, hs, ?_⟩⟩
    rw [← List.take_append_drop (l.len * 9) cur.toList, ht]
    exact NwR.more _ _ _ hr
theorem NwT.below {w w' : World} {A B C : Nat} {f : Fd} {it : TL} {v : Value} (h : NwT w A B f it v) (hb : Below C w w') (hC : B ≤ C) : NwT w' A B f it v := by
  obtain ⟨iv, e, h⟩ := h; exact ⟨iv, e, h.below hb hC⟩
theorem NwT.wide {w : World} {A B A' B' : Nat} {f : Fd} {it : TL} {v : Value} (h : NwT w A B f it v) (hA : A' ≤ A) (hB : B ≤ B') : NwT w A' B' f it v := by
  obtain ⟨iv, e, h⟩ := h; exact ⟨iv, e, h.wide hA hB⟩
theorem NwT.keep {w w' : World} {A B : Nat} {f : Fd} {it : TL} {v : Value} (h : NwT w A B f it v) (hk : ∀ k, A ≤ k → k < B → w'.heap[k]? = w.heap[k]?) : NwT w' A B f it v := by
  obtain ⟨iv, e, h⟩ := h; exact ⟨iv, e, h.keep hk⟩
theorem RdT.below {w w' : World} {A B C : Nat} {f : Fd} {it : TL} {v : Value} (h : RdT w A B f it v) (hb : Below C w w') (hC : B ≤ C) : RdT w' A B f it v := by
  obtain ⟨iv, e, h⟩ := h; exact ⟨iv, e, h.below hb hC⟩
theorem RdT.wide {w : World} {A B A' B' : Nat} {f : Fd} {it : TL} {v : Value} (h : RdT w A B f it v) (hA : A' ≤ A) (hB : B ≤ B') : RdT w A' B' f it v := by
  obtain ⟨iv, e, h⟩ := h; exact ⟨iv, e, (h.less hA).more hB⟩
/-! what may be spoilt -/
/-- a row, to the depth d, whose arrays lie in blocks from A on, below B, each at its block's head -/
def Sp (w : World) (A B : Nat) : Nat → Value → Prop
  | 0, v => ∃ ao cap, v = .slice ao 0 cap
  | d + 1, v => ∃ ao n cap, v = .slice ao n cap ∧ (n = 0 ∨ ∃ g cur, ao = some ⟨g, 0, none⟩ ∧ A ≤ g ∧ g < B ∧ w.heap[g]? = some (.cells cur 24 (0, 0)) ∧ n * 9 ≤ cur.size ∧ n ≤ cap ∧ cap ≤ maxLen ∧ ∀ i, i < n → ∃ iv, cur[i * 9 + 6]? = some iv ∧ Sp w A B d iv)
theorem Sp.none (w : World) (A B d cap : Nat) (ao : Option Addr) : Sp w A B d (.slice ao 0 cap) := by
  cases d with
  | zero => exact ⟨ao, cap, rfl⟩
  | succ d => exact ⟨ao, 0, cap, rfl, .inl rfl⟩
/-- spoiling: only blocks from A on, below B, are turned; each keeps its size; the items of each term there stay, or are nil -/
structure SpW (A B : Nat) (w w' : World) : Prop where
  os : w'.os = w.os
  tape : w'.tape = w.tape
  output : w'.output = w.output
  size : w.heap.size ≤ w'.heap.size
  out : ∀ k, k < w.heap.size → (k < A ∨ B ≤ k) → w'.heap[k]? = w.heap[k]?
  inn : ∀ k cur t, A ≤ k → k < B → w.heap[k]? = some (.cells cur t (0, 0)) → ∃ cur', w'.heap[k]? = some (.cells cur' t (0, 0)) ∧ cur'.size = cur.size ∧ ∀ i, cur'[i * 9 + 6]? = cur[i * 9 + 6]? ∨ (i * 9 + 6 < cur.size ∧ cur'[i * 9 + 6]? = some (.slice .none 0 0))
theorem SpW.of_below {A B : Nat} {w w' : World} (h : Below w.heap.size w w') : SpW A B w w' :=
  ⟨h.os, h.tape, h.output, h.size, fun k hk _ => h.block k hk, fun k cur _ _ _ hc => ⟨cur, (h.block k (lt_of_block hc)).trans hc, rfl, fun _ => .inl rfl⟩⟩
theorem SpW.refl (A B : Nat) (w : World) : SpW A B w w := SpW.of_below (Below.refl _ _)
theorem SpW.trans {A B : Nat} {a b c : World} (h : SpW A B a b) (k : SpW A B b c) : SpW A B a c := by
  refine ⟨k.os.trans h.os, k.tape.trans h.tape, k.output.trans h.output, Nat.le_trans h.size k.size, fun i hi ho => (k.out i (Nat.lt_of_lt_of_le hi h.size) ho).trans (h.out i hi ho), fun i cur t ha hb hc => ?_⟩
  obtain ⟨c1, e1, s1, i1⟩ := h.inn i cur t ha hb hc
  obtain ⟨c2, e2, s2, i2⟩ := k.inn i c1 t ha hb e1
  refine ⟨c2, e2, s2.trans s1, fun j => ?_⟩
  rcases i2 j with h2 | ⟨h2, h3⟩
  · rw [h2]; exact i1 j
  · exact .inr ⟨by omega, h3⟩
theorem SpW.sp {A B A' B' : Nat} {w w' : World} (h : SpW A B w w') : ∀ (d : Nat) (v : Value), Sp w A' B' d v → Sp w' A' B' d v
  | 0, _, hv => hv
  | d + 1, v, ⟨ao, n, cap, e, hv⟩ => by
    refine ⟨ao, n, cap, e, ?_⟩
    rcases hv with hv | ⟨g, cur, e1, ga, gb, hg, hn, hc, hm, hi⟩
    · exact .inl hv
    · right
      by_cases hin : A ≤ g ∧ g < B
      · obtain ⟨c1, e2, s1, i1⟩ := h.inn g cur _ hin.1 hin.2 hg
        refine ⟨g, c1, e1, ga, gb, e2, by omega, hc, hm, fun i hlt => ?_⟩
        obtain ⟨iv, hiv, hsp⟩ := hi i hlt
        rcases i1 i with h1 | ⟨_, h1⟩
        · exact ⟨iv, h1.trans hiv, SpW.sp h d iv hsp⟩
        · exact ⟨_, h1, Sp.none _ _ _ _ _ _⟩
      · refine ⟨g, cur, e1, ga, gb, (h.out g (lt_of_block hg) (by omega)).trans hg, hn, hc, hm, fun i hlt => ?_⟩
        obtain ⟨iv, hiv, hsp⟩ := hi i hlt
        exact ⟨iv, hiv, SpW.sp h d iv hsp⟩
theorem SpW.below {A B : Nat} {w w' : World} (h : SpW A B w w') (hA : A ≤ w.heap.size) : Below A w w' := ⟨h.os, h.tape, h.output, h.size, fun k hk => h.out k (by omega) (.inl hk)⟩
theorem Sp.keep {w w' : World} {A B : Nat} (hk : ∀ k, A ≤ k → k < B → w'.heap[k]? = w.heap[k]?) : ∀ (d : Nat) (v : Value), Sp w A B d v → Sp w' A B d v
  | 0, _, hv => hv
  | d + 1, v, ⟨ao, n, cap, e, hv⟩ => by
    refine ⟨ao, n, cap, e, ?_⟩
    rcases hv with hv | ⟨g, cur, e1, ga, gb, hg, hn, hc, hm, hi⟩
    · exact .inl hv
    · exact .inr ⟨g, cur, e1, ga, gb, (hk g ga gb).trans hg, hn, hc, hm, fun i hlt => by
        obtain ⟨iv, hiv, hsp⟩ := hi i hlt
        exact ⟨iv, hiv, Sp.keep hk d iv hsp⟩⟩
theorem NwR.sp_at {w : World} {A B d : Nat} (ih : ∀ (m : TL) (v : Value), m.cnt ≤ d → NwS w A B m v → Sp w A B d v) : ∀ (l : TL) (xs : List Value), NwR w A B l xs → l.cnt ≤ d + 1 → ∀ i, i < l.len → ∃ iv, xs[i * 9 + 6]? = some iv ∧ Sp w A B d iv
  | .nil, _, _, _, i, hi => by simp [TL.len] at hi
  | .cons f it r, xs, h, hc, i, hi => by
    obtain ⟨iv, rest, rfl, h1, hr⟩ := NwR.uncons h
    simp only [TL.cnt] at hc
    cases i with
    | zero => exact ⟨iv, rfl, ih it iv (by omega) h1⟩
    | succ i =>
      obtain ⟨jv, e, hs⟩ := NwR.sp_at ih r rest hr (by omega) i (by simp only [TL.len] at hi; omega)
      refine ⟨jv, ?_, hs⟩
      rw [List.getElem?_append_right (by rw [cells_len]; omega), cells_len, show (i + 1) * 9 + 6 - 9 = i * 9 + 6 by omega]
      exact e
theorem NwS.sp {w : World} {A B : Nat} : ∀ (d : Nat) (l : TL) (v : Value), l.cnt ≤ d → NwS w A B l v → Sp w A B d v
  | 0, l, v, hc, ⟨ao, cap, e, _⟩ => by
    have := TL.len_le_cnt l
    have h0 : l.len = 0 := by omega
    rw [h0] at e
    exact ⟨ao, cap, e⟩
  | d + 1, l, v, hc, ⟨ao, cap, e, h1, h2, h3⟩ => by
    refine ⟨ao, l.len, cap, e, ?_⟩
    rcases h3 with ⟨_, h3⟩ | ⟨g, cur, e1, ga, gb, hh, hs, hi⟩
    · exact .inl (by omega)
    · refine .inr ⟨g, cur, e1, ga, gb, hh, by omega, h1, h2, fun i hlt => ?_⟩
      obtain ⟨iv, hiv, hsp⟩ := NwR.sp_at (fun m v hm hn => NwS.sp d m v hm hn) l cur.toList hi hc i hlt
      exact ⟨iv, by simpa using hiv, hsp⟩
end Go.Proofs.YtgfodedmcjkmaaaDoor
