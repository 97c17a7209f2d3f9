/-
  Rows of terms as lists of cells; append of one row onto another.
-/
import Derived.Test.YtgfodedmcjkmaaaDoorPCheck
import Derived.Laws.AppendOwnNone
import Derived.Deep.AppendSrc
namespace Go.Proofs.YtgfodedmcjkmaaaDoor
open Go.RowKit
/-- a list of cells that reads as these terms -/
def RdL (w : World) (A B : Nat) : TL → List Value → Prop
  | .nil, xs => xs = []
  | .cons f it r, xs => ∃ iv rest, xs = f.cells iv ++ rest ∧ RdS w A B it iv ∧ RdL w A B r rest
theorem RdL.len {w : World} {A B : Nat} : ∀ {l : TL} {xs : List Value}, RdL w A B l xs → xs.length = l.len * 9
  | .nil, _, h => by rw [h]; rfl
  | .cons f it r, _, ⟨iv, rest, e, _, hr⟩ => by
    rw [e, List.length_append, cells_len, RdL.len hr]; simp only [TL.len]; omega
theorem RdL.one {w : World} {A B : Nat} : ∀ {l : TL} {xs : List Value}, RdL w A B l xs → ∀ u ∈ xs, u.oneCell' = true
  | .nil, _, h, u, hu => by rw [h] at hu; cases hu
  | .cons f it r, _, ⟨iv, rest, e, hi, hr⟩, u, hu => by
    rw [e, List.mem_append] at hu
    rcases hu with hu | hu
    · obtain ⟨ai, ci, rfl⟩ := hi.slice
      exact cells_one f ai it.len ci u hu
    · exact RdL.one hr u hu
theorem RdL.keep {w w' : World} {A B : Nat} (hk : ∀ b o, b < B → w'.cell? ⟨b, o, none⟩ = w.cell? ⟨b, o, none⟩) : ∀ {l : TL} {xs : List Value}, RdL w A B l xs → RdL w' A B l xs
  | .nil, _, h => h
  | .cons _ _ _, _, ⟨iv, rest, e, hi, hr⟩ => ⟨iv, rest, e, hi.keep hk, RdL.keep hk hr⟩
theorem RdL.below {w w' : World} {A B C : Nat} {l : TL} {xs : List Value} (h : RdL w A B l xs) (hb : Below C w w') (hC : B ≤ C) : RdL w' A B l xs := h.keep (below_cells hb hC)
theorem RdL.wide {w : World} {A B A' B' : Nat} (hA : A' ≤ A) (hB : B ≤ B') : ∀ {l : TL} {xs : List Value}, RdL w A B l xs → RdL w A' B' l xs
  | .nil, _, h => h
  | .cons _ _ _, _, ⟨iv, rest, e, hi, hr⟩ => ⟨iv, rest, e, (hi.less hA).more hB, RdL.wide hA hB hr⟩
theorem RdL.app {w : World} {A B : Nat} : ∀ {l m : TL} {xs ys : List Value}, RdL w A B l xs → RdL w A B m ys → RdL w A B (l.app m) (xs ++ ys)
  | .nil, _, _, _, h, hm => by rw [h]; exact hm
  | .cons f it r, _, _, _, ⟨iv, rest, e, hi, hr⟩, hm => ⟨iv, rest ++ _, by rw [e, List.append_assoc], hi, RdL.app hr hm⟩
theorem RdL.single {w : World} {A B : Nat} {f : Fd} {it : TL} {iv : Value} (h : RdS w A B it iv) : RdL w A B (.cons f it .nil) (f.cells iv) := ⟨iv, [], by rw [List.append_nil], h, rfl⟩
/-- a row that lies in memory, as a list of cells -/
theorem Rd.list {w : World} {A B : Nat} : ∀ (l : TL) (b o : Nat), Rd w A B l b o → ∃ xs, RdL w A B l xs ∧ ∀ j u, xs[j]? = some u → w.cell? ⟨b, o + j, none⟩ = some u
  | .nil, _, _, _ => ⟨[], rfl, fun j u h => by cases h⟩
  | .cons f it r, b, o, ⟨_, _, ⟨ao, cap, h1, h2, h3, h4⟩, hr⟩ => by
    obtain ⟨ys, hy, hc⟩ := Rd.list r b (o + 9) hr
    refine ⟨f.cells (.slice ao it.len cap) ++ ys, ⟨_, ys, rfl, ⟨ao, cap, rfl, h2, h3, h4⟩, hy⟩, fun j u hj => ?_⟩
    rcases Nat.lt_or_ge j 9 with hlt | hge
    · rw [List.getElem?_append_left (by rw [cells_len]; exact hlt)] at hj
      exact h1 j u hj
    · rw [List.getElem?_append_right (by rw [cells_len]; exact hge), cells_len] at hj
      rw [show o + j = o + 9 + (j - 9) by omega]
      exact hc _ _ hj
/-- the cells of a slice that reads as these terms -/
theorem RdS.list {w : World} {A B : Nat} {l : TL} {ao : Option Addr} {c : Nat} (h : RdS w A B l (.slice ao l.len c)) : ∃ xs, RdL w A B l xs ∧ (ao = none → l.len = 0) ∧ ∀ ad, ao = some ad → ∀ j u, xs[j]? = some u → w.cell? (ad.add j) = some u := by
  obtain ⟨ao', c', e, h1, h2, h3⟩ := h
  injection e with e1 e2 e3
  subst e1 e3
  by_cases hn : l = .nil
  · subst hn
    exact ⟨[], rfl, fun _ => rfl, fun ad _ j u hu => by cases hu⟩
  · obtain ⟨b, o, e, hr⟩ := h3 hn
    obtain ⟨xs, hx, hc⟩ := Rd.list l b o hr
    subst e
    refine ⟨xs, hx, (fun h => by cases h), fun ad had j u hu => ?_⟩
    injection had with had
    subst had
    have h := hc j u hu
    unfold Addr.add
    split
    · rename_i h0; subst h0; exact h
    · exact h
/-- a list of cells at the head of a row, read -/
theorem RdL.rd {w : World} {A B : Nat} : ∀ (l : TL) (xs : List Value) (b o : Nat), RdL w A B l xs → A ≤ b → b < B → (∀ j u, xs[j]? = some u → w.cell? ⟨b, o + j, none⟩ = some u) → Rd w A B l b o
  | .nil, _, _, _, _, _, _, _ => trivial
  | .cons f it r, xs, b, o, ⟨iv, rest, e, hi, hr⟩, ha, hb, hc => by
    subst e
    obtain ⟨ao, cap, rfl, h1, h2, h3⟩ := hi
    refine ⟨ha, hb, ⟨ao, cap, fun j v hj => hc j v ?_, h1, h2, h3⟩, RdL.rd r rest b (o + 9) hr ha hb fun j u hu => ?_⟩
    · rw [List.getElem?_append_left (by
        rcases Nat.lt_or_ge j (f.cells (.slice ao it.len cap)).length with h | h
        · exact h
        · rw [List.getElem?_eq_none h] at hj; cases hj)]
      exact hj
    · have := hc (9 + j) u (by rw [List.getElem?_append_right (by rw [cells_len]; omega), cells_len, show 9 + j - 9 = j by omega]; exact hu)
      rw [show o + 9 + j = o + (9 + j) by omega]; exact this
/-- a row that a call owns, read -/
theorem RdS.of_owns {w : World} {A B C : Nat} {l : TL} {v : Value} {n : Nat} {xs : List Value} (h : w.ownsRow C 24 9 v n xs) (hn : n = l.len) (hA : A ≤ C) (hB : w.heap.size ≤ B) (hr : RdL w A B l xs) : RdS w A B l v := by
  subst hn
  obtain ⟨hl, h | ⟨g, cap, cur, e, hg, hh, hc, hm, hs, ht⟩⟩ := h
  · obtain ⟨e, h0⟩ := h
    exact ⟨none, 0, by rw [e, h0], by omega, by unfold maxLen; omega, fun hn => absurd (TL.len_zero h0) hn⟩
  · have hlt := lt_of_block hh
    refine ⟨_, cap, e, hc, hm, fun _ => ⟨g, 0, rfl, RdL.rd l xs g 0 hr (by omega) (by omega) fun j u hu => ?_⟩⟩
    rw [cells_of hh, Nat.zero_add]
    rw [← ht, List.getElem?_take] at hu
    split at hu
    · simpa using hu
    · cases hu
/-- a row appended to a row that the call owns -/
theorem wpList_append_row {w : World} {ops : Array Oper} {rest : List Oper} {o : Oper} {a : Act} {Q : Exit → Act → World → Prop} (hgd : o.guard = none) (s x : Operand)
    (ho : o.op = .call { callee := .builtin .append, args := #[s, x], argTypes := #[22, 22] })
    (base g n cap : Nat) (xs : List Value) (hs : a.eval s = .slice (some ⟨g, 0, none⟩) n cap) (hown : w.ownsRow base 24 9 (.slice (some ⟨g, 0, none⟩) n cap) n xs)
    (ao : Option Addr) (m c : Nat) (news : List Value) (hx : a.eval x = .slice ao m c) (hnone : ao = none → m = 0) (hl : news.length = m * 9) (hnews : ∀ ad, ao = some ad → ∀ j u, news[j]? = some u → w.cell? (ad.add j) = some u)
    (h1 : ∀ u ∈ news, u.oneCell' = true) (hb : n + m ≤ 1000000000000) (hbase : base ≤ w.heap.size)
    (h : ∀ g' cap' w', w'.ownsRow base 24 9 (.slice (some ⟨g', 0, none⟩) (n + m) cap') (n + m) (xs ++ news) → w.grownBy w' (some g) → wpList Tryd.prog ops Q rest (a.put o.dst (.slice (some ⟨g', 0, none⟩) (n + m) cap')) w') : wpList Tryd.prog ops Q (o :: rest) a w := by
  obtain ⟨i0, hi, hz0, hz1, hz2⟩ := info_parts Tryd.info24
  cases ao with
  | some ad =>
    refine wpList_append_own w hgd s x 22 ho base 24 i0 zeroV 9 112 Tryd.underlying22 hi hz0 hz1 hz2 rfl (by decide) _ n xs hs hown ad m c news hx hl (hnews ad rfl) h1 (by unfold maxLen; omega) (by omega) hbase fun v' w' hown' hg hnil => ?_
    have hne : v' ≠ .slice none 0 0 := fun e => by
      have := (hnil.1 e).1
      cases this
    rcases hown'.2 with ⟨e, _⟩ | ⟨g', cap', cur, e, _⟩
    · exact absurd e hne
    · subst e
      exact h g' cap' w' hown' hg
  | none =>
    have hm := hnone rfl
    subst hm
    have hn : news = [] := List.eq_nil_of_length_eq_zero (by simpa using hl)
    subst hn
    have hcap : n ≤ cap := by
      rcases hown.2 with ⟨e, _⟩ | ⟨g', cap', cur, e, _, _, h1, _⟩
      · cases e
      · injection e with _ _ e3
        omega
    refine wpList_plain hgd fun K hK => ?_
    have hrun := run_append_room_src (P := Tryd.prog) w 22 22 o.type 24 i0 Tryd.underlying22 hi g 0 n cap (.slice none 0 c) 0 [] (by rw [hz1]; exact Src.ofNil w Tryd.underlying22 c) (by omega) (fun j hj => by cases hj) (fun j hj => by cases hj)
    unfold Oper.wp
    simp only [execOp, ho, resolve, invoke, builtin, Sem.run_bind, Sem.run_pure, Result.andThen_ok, List.map_toArray, List.map_cons, List.map_nil, hs, hx, hrun]
    refine hK _ _ (h g cap _ ?_ ⟨rfl, rfl, rfl, ?_, fun k _ _ => ?_⟩)
    · rw [List.append_nil]; exact hown
    · exact Nat.le_refl _
    · rfl
end Go.Proofs.YtgfodedmcjkmaaaDoor
