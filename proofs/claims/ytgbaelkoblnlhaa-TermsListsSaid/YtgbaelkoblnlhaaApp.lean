/-
  Appends of terms onto a row that the call owns: exact: in place, in a new row, or nothing at all.
-/
import Derived.Test.YtgbaelkoblnlhaaRows2
import Derived.Test.YtgbaelkoblnlhaaRegion4
import Derived.Deep.AppendSrc
import Derived.ArgAppend
import Derived.Laws.OwnMore
namespace Go.Proofs.Ytgbaelkoblnlhaa
open Go.RowKit
theorem app_any {W : World} (ty : TypeId) (g n cap : Nat) (xs : List Value) (ao : Option Addr) (m c : Nat) (news : List Value) (hown : W.ownsRow 0 24 9 (.slice (some ⟨g, 0, none⟩) n cap) n xs)
    (hnone : ao = none → m = 0) (hl : news.length = m * 9) (hc : ∀ ad, ao = some ad → ∀ j u, news[j]? = some u → W.cell? (ad.add j) = some u) (h1 : ∀ u ∈ news, u.oneCell' = true) (hb : n + m ≤ 1000000000000) :
    ∃ v' W', (Builtin.append_ #[22, 22] ty #[.slice (some ⟨g, 0, none⟩) n cap, .slice ao m c]).run Try.prog W = .ok v' W' ∧ W'.ownsRow 0 24 9 v' (n + m) (xs ++ news) ∧
      ((m = 0 ∧ v' = .slice (some ⟨g, 0, none⟩) n cap ∧ W' = W) ∨ (m ≠ 0 ∧ n + m ≤ cap ∧ v' = .slice (some ⟨g, 0, none⟩) (n + m) cap ∧ W.grownBy W' (some g)) ∨ (m ≠ 0 ∧ ∃ g' cap', v' = .slice (some ⟨g', 0, none⟩) (n + m) cap' ∧ W.heap.size ≤ g' ∧ g' < W'.heap.size ∧ W.grownBy W' none)) := by
  obtain ⟨i0, hi, hz0, hz1, hz2⟩ := info_parts Try.info24
  have hcap : n ≤ cap := by
    rcases hown.2 with ⟨e, _⟩ | ⟨g', cap', cur, e, _, _, h1, _⟩
    · cases e
    · injection e with _ _ e3
      omega
  by_cases hm : m = 0
  · subst hm
    have hn : news = [] := List.eq_nil_of_length_eq_zero (by simpa using hl)
    subst hn
    have hsrc : Src Try.prog i0.size 22 (.slice ao 0 c) 0 [] W := by
      cases ao with
      | none => exact Src.ofNil W Try.underlying22 c
      | some ad => exact Src.ofSlice W Try.underlying22 ad 0 c [] (by simp) (fun j u h => by cases h) (fun _ h => by cases h)
    have hrun := run_append_room_src (P := Try.prog) W 22 22 ty 24 i0 Try.underlying22 hi g 0 n cap (.slice ao 0 c) 0 [] hsrc (by omega) (fun j hj => by cases hj) (fun j hj => by cases hj)
    refine ⟨_, _, hrun, ?_, .inl ⟨rfl, rfl, rfl⟩⟩
    rw [List.append_nil]
    exact hown
  · cases ao with
    | none => exact absurd (hnone rfl) hm
    | some ad =>
      by_cases hr : n + m ≤ cap
      · obtain ⟨W', hrun, h2, h3⟩ := run_append_fits (P := Try.prog) W 0 22 ty 24 i0 9 Try.underlying22 hi hz1 g n cap xs hown ad m c news hl (hc ad rfl) h1 hr
        exact ⟨_, W', hrun, h2, .inr (.inl ⟨hm, hr, rfl, h3⟩)⟩
      · obtain ⟨v', W', hrun, h2, h3⟩ := run_append_arg_grows (P := Try.prog) W 22 ty 24 i0 zeroV 9 112 Try.underlying22 hi hz0 hz1 hz2 rfl (by decide) ⟨g, 0, none⟩ n cap xs hown.1 (hown.cells rfl) ad m c news hl (hc ad rfl) (by omega) (by unfold maxLen; omega) (by omega)
        rcases h2.2 with ⟨_, e⟩ | ⟨g', cap', cur, e, hbg, hg, hrest⟩
        · omega
        · subst e
          exact ⟨_, W', hrun, ⟨h2.1, .inr ⟨g', cap', cur, rfl, Nat.zero_le _, hg, hrest⟩⟩, .inr (.inr ⟨hm, g', cap', rfl, hbg, lt_of_block hg, h3⟩)⟩
theorem wp_builtin_append {o : Oper} {a : Act} {w : World} {K : Act → World → Prop} {Q : Exit → Act → World → Prop} (s x : Operand) (ho : o.op = .call { callee := .builtin .append, args := #[s, x], argTypes := #[22, 22] }) (v1 v2 v' : Value) (w' : World)
    (hs : a.eval s = v1) (hx : a.eval x = v2) (hrun : (Builtin.append_ #[22, 22] o.type #[v1, v2]).run Try.prog w = .ok v' w') (h : K (a.put o.dst v') w') : o.wp Try.prog a w K Q := by
  unfold Oper.wp
  simp only [execOp, ho, resolve, invoke, builtin, Sem.run_bind, Sem.run_pure, Result.andThen_ok, List.map_toArray, List.map_cons, List.map_nil, hs, hx, hrun]
  exact h
end Go.Proofs.Ytgbaelkoblnlhaa
