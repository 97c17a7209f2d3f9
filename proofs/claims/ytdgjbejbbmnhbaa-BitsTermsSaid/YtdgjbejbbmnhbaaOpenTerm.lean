/-
  A term among the arguments opened: its nine fields.
-/
import Derived.Test.YtdgjbejbbmnhbaaOpen
import Derived.Test.YtdgjbejbbmnhbaaBitsTerm
import Derived.Deep.Slices
import Derived.Deep.Fields
namespace Go.Proofs.Ytdgjbejbbmnhbaa
open Go.ChangeShapes Go.WideShapes Go.ChangeAt Go.RowKit Go.Joins Go.Deep
theorem Try.cells40 : Try.prog.cellsOf 40 = 9 := by kernel_rfl
theorem slice_shape {H : Type} {enc : TypeId × Value → H} {w : World} {base fuel : Nat} {sp : Nat → Bool} {held : Bool} {t e : TypeId} {c : Value} {x : DataW H × List MemPlace} (ht : Try.prog.underlying t = some (.slice e))
    (h : DataW.trod enc Try.prog w base sp held fuel t [c] = some x) : ∃ (ao : Option Addr) (il cap : Nat), c = .slice ao il cap ∧ il ≤ maxLen := by
  rcases open_slice ht h with ⟨h0, _⟩ | ⟨a, len, cap, m, n, D, Pl, hcs, hb, hl, hm, _⟩
  · simp at h0
    exact ⟨none, 0, 0, h0, by decide⟩
  · simp at hcs
    exact ⟨some a, len, cap, hcs, Nat.le_trans hl hm⟩
/-- a term among the arguments, opened to its nine fields -/
theorem open_term {H : Type} {enc : TypeId × Value → H} {w : World} {base b0 : Nat} {sp : Nat → Bool} {held : Bool} {v : Value} {d : DataW H} {p : List MemPlace} {r : Reach}
    (hv : Value.okWide Try.prog w r b0 40 v) (h : DataW.Trod enc Try.prog w base sp held 40 v d p) :
    ∃ (k i g : Int) (nm fn : ByteArray) (ar : Int) (ao : Option Addr) (il cap : Nat) (bs : ByteArray) (n : Int), v = tmV k i g nm fn ar (.slice ao il cap) bs n ∧ bs.size ≤ maxLen ∧ il ≤ maxLen ∧ i64ok n := by
  have hs := Try.underlying40
  obtain ⟨cs, rfl, hsz⟩ := okWide_struct hs hv
  obtain ⟨l⟩ := cs
  match l, hsz.trans Try.cells40 with
  | [c0, c1, c2, c3, c4, c5, c6, c7, c8], _ =>
    obtain ⟨fuel, hf⟩ := h
    obtain ⟨xs, n, _, hx, _, hlen, hg⟩ := DataW.trod_struct hs hf
    match xs, hlen with
    | [y0, y1, y2, y3, y4, y5, y6, y7, y8], _ =>
      have o0 : Try.prog.cellsOf 3 = 1 := by kernel_rfl
      have o1 : Try.prog.cellsOf 2 = 1 := by kernel_rfl
      have o2 : Try.prog.cellsOf 9 = 1 := by kernel_rfl
      have o3 : Try.prog.cellsOf 38 = 1 := by kernel_rfl
      have g0 := hg 0 _ rfl
      have g1 := hg 1 _ rfl
      have g2 := hg 2 _ rfl
      have g3 := hg 3 _ rfl
      have g4 := hg 4 _ rfl
      have g5 := hg 5 _ rfl
      have g6 := hg 6 _ rfl
      have g7 := hg 7 _ rfl
      have g8 := hg 8 _ rfl
      simp [Value.cells, o0, o1, o2, o3] at g0 g1 g2 g3 g4 g5 g6 g7 g8
      obtain ⟨k0, e0, _, _⟩ := DataW.trod_int Try.underlying3 g0
      obtain ⟨k1, e1, _, _⟩ := DataW.trod_int Try.underlying2 g1
      obtain ⟨k2, e2, _, _⟩ := DataW.trod_int Try.underlying2 g2
      obtain ⟨k3, e3, _, _⟩ := DataW.trod_string Try.underlying9 g3
      obtain ⟨k4, e4, _, _⟩ := DataW.trod_string Try.underlying9 g4
      obtain ⟨k5, e5, _, _⟩ := DataW.trod_int Try.underlying3 g5
      obtain ⟨ao, il, cap, e6, hil⟩ := slice_shape Try.underlying38 g6
      obtain ⟨k7, e7, _, hs7⟩ := DataW.trod_string Try.underlying9 g7
      obtain ⟨k8, e8, _, w8⟩ := DataW.trod_int Try.underlying3 g8
      simp at e0 e1 e2 e3 e4 e5 e7 e8
      subst e0 e1 e2 e3 e4 e5 e6 e7 e8
      exact ⟨_, _, _, _, _, _, _, _, _, _, _, rfl, hs7, hil, i64_bounds w8⟩
end Go.Proofs.Ytdgjbejbbmnhbaa
