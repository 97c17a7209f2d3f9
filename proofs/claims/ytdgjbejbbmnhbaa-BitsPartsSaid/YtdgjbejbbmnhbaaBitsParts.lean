/-
  The law BitsParts: both ways joined.
-/
import Derived.Test.YtdgjbejbbmnhbaaBitsPartsMain
namespace Go.Proofs.Ytdgjbejbbmnhbaa
open Go.RowKit Go.Proofs.BitsM
theorem okB_map (Ls : List (List Bool)) (h : ∀ L ∈ Ls, L.length ≤ 16384) : okB (Ls.map BV) := by
  intro x hx
  obtain ⟨L, hL, rfl⟩ := List.mem_map.1 hx
  have := h L hL
  unfold BV
  refine ⟨?_, ?_⟩
  · simp only; rw [packS_size]; omega
  · unfold i64ok; simp only; omega
theorem join_says (Ls : List (List Bool)) (h : (Ls.map List.length).sum ≤ 16384) (hl : ∀ L ∈ Ls, L.length ≤ 16384) (hn : Ls.length ≤ 1000) :
    JoinSays (Ls.map BV) (packS Ls.flatten) (Ls.flatten.length : Int) := by
  intro W v hv
  have := Join_any v (Ls.map BV) (okB_map Ls hl) (by simpa using hn) W hv
  rw [joinR_BV Ls h] at this
  exact this
theorem cut_says (L : List Bool) (f k : Nat) (h : f + k ≤ L.length) (hl : L.length ≤ 16384) : CutSays (packS L) (L.length : Int) f k (packS ((L.drop f).take k)) k := by
  intro W
  have := Cut_any (packS L) (L.length : Int) f k (by rw [packS_size]; omega) ⟨by omega, by omega⟩ ⟨by omega, by omega⟩ ⟨by omega, by omega⟩ W
  rw [cutR_BV L f k h] at this
  exact this
theorem packS_nil : packS [] = ⟨#[]⟩ := by decide
theorem lawParts (x y z : ByteArray) (a b c : Int) (hx : x.size ≤ maxLen) (hy : y.size ≤ maxLen) (hz : z.size ≤ maxLen) (ha : i64ok a) (hb : i64ok b) (hc : i64ok c) (w : World) :
    Calls Try.prog 6 #[.agg #[.string x, .int .i64 a], .agg #[.string y, .int .i64 b], .agg #[.string z, .int .i64 c]] w (Yes w) := by
  by_cases hg : x.size ≤ 600 ∧ y.size ≤ 600 ∧ z.size ≤ 600 ∧ validB x a = true ∧ validB y b = true ∧ validB z c = true
  · obtain ⟨h1, h2, h3, v1, v2, v3⟩ := hg
    have e1 := valid_BV v1
    have e2 := valid_BV v2
    have e3 := valid_BV v3
    have s1 := valid_le v1
    have s2 := valid_le v2
    have s3 := valid_le v3
    obtain ⟨X, hX, lX⟩ : ∃ X : List Bool, (x, a) = BV X ∧ X.length ≤ 4800 := ⟨_, e1, by rw [bitsB_length]; omega⟩
    obtain ⟨Y, hY, lY⟩ : ∃ X : List Bool, (y, b) = BV X ∧ X.length ≤ 4800 := ⟨_, e2, by rw [bitsB_length]; omega⟩
    obtain ⟨Z, hZ, lZ⟩ : ∃ X : List Bool, (z, c) = BV X ∧ X.length ≤ 4800 := ⟨_, e3, by rw [bitsB_length]; omega⟩
    clear e1 e2 e3 s1 s2 s3
    simp only [BV, Prod.mk.injEq] at hX hY hZ
    obtain ⟨rfl, rfl⟩ := hX
    obtain ⟨rfl, rfl⟩ := hY
    obtain ⟨rfl, rfl⟩ := hZ
    have J1 := join_says [X, Y] (by simp; omega) (by simp; omega) (by simp)
    have J2 := join_says [Y, Z] (by simp; omega) (by simp; omega) (by simp)
    have J3 := join_says [X ++ Y, Z] (by simp; omega) (by simp; omega) (by simp)
    have J4 := join_says [X, Y ++ Z] (by simp; omega) (by simp; omega) (by simp)
    have J5 := join_says [[], X, []] (by simp; omega) (by simp; omega) (by simp)
    have C1 := cut_says (X ++ Y ++ Z) 0 X.length (by simp) (by simp; omega)
    have C2 := cut_says (X ++ Y ++ Z) X.length Y.length (by simp) (by simp; omega)
    have C3 := cut_says (X ++ Y ++ Z) (X.length + Y.length) Z.length (by simp; omega) (by simp; omega)
    rw [show ((X ++ Y ++ Z).drop 0).take X.length = X by simp] at C1
    rw [show ((X ++ Y ++ Z).drop X.length).take Y.length = Y by simp] at C2
    rw [show ((X ++ Y ++ Z).drop (X.length + Y.length)).take Z.length = Z by rw [← List.length_append, List.drop_left, List.take_length]] at C3
    simp only [List.map_cons, List.map_nil, BV, List.flatten_cons, List.flatten_nil, List.append_nil, List.nil_append, packS_nil, List.length_nil] at J1 J2 J3 J4 J5
    rw [← List.append_assoc] at J4
    exact parts_main _ _ _ (packS (X ++ Y)) (packS (Y ++ Z)) (packS (X ++ Y ++ Z)) _ _ _ ((X ++ Y).length : Int) ((Y ++ Z).length : Int) ((X ++ Y ++ Z).length : Int) ha hb hc h1 h2 h3 v1 v2 v3
      (by simp; omega) J1 J2 J3 J4 C1 C2 (by simpa using C3) J5 w
  · exact parts_early x y z a b c hx hy hz ha hb hc hg w
end Go.Proofs.Ytdgjbejbbmnhbaa
