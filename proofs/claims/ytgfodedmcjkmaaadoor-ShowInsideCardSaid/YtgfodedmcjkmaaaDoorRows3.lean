/-
  Rows that grow: what the makers share.
-/
import Derived.Test.YtgfodedmcjkmaaaDoorPure
import Derived.Test.YtgfodedmcjkmaaaDoorNine
namespace Go.Proofs.YtgfodedmcjkmaaaDoor
open Go.RowKit
theorem own_news {w : World} {C g n cap : Nat} {xs : List Value} (h : w.ownsRow C 24 9 (.slice (some ⟨g, 0, none⟩) n cap) n xs) : ∀ j u, xs[j]? = some u → w.cell? ((⟨g, 0, none⟩ : Addr).add j) = some u := fun j u hu => h.cells rfl j u hu
theorem NwR.one {w : World} {A B : Nat} : ∀ {l : TL} {xs : List Value}, NwR w A B l xs → xs.length = l.len * 9 → ∀ u ∈ xs, u.oneCell' = true
  | .nil, xs, _, hl, u, hu => by
    have : xs = [] := List.eq_nil_of_length_eq_zero (by simpa [TL.len] using hl)
    rw [this] at hu; cases hu
  | .cons f it r, xs, h, hl, u, hu => by
    obtain ⟨iv, rest, rfl, hi, hr⟩ := NwR.uncons h
    rw [List.length_append, cells_len] at hl
    simp only [TL.len] at hl
    rw [List.mem_append] at hu
    rcases hu with hu | hu
    · obtain ⟨ai, ci, rfl⟩ := hi.slice
      exact cells_one f ai it.len ci u hu
    · exact NwR.one hr (by omega) u hu
theorem own_one {w : World} {A B C g n cap : Nat} {l : TL} {xs : List Value} (h : NwR w A B l xs) (ho : w.ownsRow C 24 9 (.slice (some ⟨g, 0, none⟩) n cap) l.len xs) : ∀ u ∈ xs, u.oneCell' = true := NwR.one h ho.1
theorem grown_below5 {w w4 w5 : World} {g B : Nat} (h : Below B w w4) (hg : w4.grownBy w5 (some g)) (hB : B ≤ w4.heap.size) (hg2 : B ≤ g) : Below B w w5 := h.grown hg hB fun k hk => by cases hk; exact hg2
theorem NwR.grown {w w' : World} {A B g : Nat} {l : TL} {xs : List Value} (h : NwR w A B l xs) (hg : w.grownBy w' (some g)) (hB : B ≤ w.heap.size) (hA : g < A ∨ B ≤ g) : NwR w' A B l xs := NwR.keep (fun k h1 h2 => hg.block k (by omega) (by simp; omega)) _ _ h
theorem lstC_bad {l : TL} {f : Fd} {it : TL} (h : formL l = false ∨ formT f it = false) : lstC l f it = 2 := by
  unfold lstC
  rcases h with h | h
  · rw [h, Bool.false_and]; rfl
  · rw [h, Bool.and_false]; rfl
theorem lstC_ok {l : TL} {f : Fd} {it : TL} (h : formL l = true) (h2 : formT f it = true) : lstC l f it = if 2000 < wholeL l + wholeT f it + l.len then 3 else 0 := by
  unfold lstC; rw [h, h2]; rfl
end Go.Proofs.YtgfodedmcjkmaaaDoor
