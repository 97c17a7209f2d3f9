/-
  The arguments of the laws opened: a bit string, an integer.
-/
import Derived.Test.YtdgjbejbbmnhbaaRow
import Derived.Test.YtdgjbejbbmnhbaaBitsCut2
namespace Go.Proofs.Ytdgjbejbbmnhbaa
open Go.ChangeShapes Go.WideShapes Go.ChangeAt Go.RowKit Go.Joins
theorem Try.cells25 : Try.prog.cellsOf 25 = 2 := by kernel_rfl
/-- a bit string among the arguments, opened -/
theorem open_bits {H : Type} {enc : TypeId × Value → H} {w : World} {base b0 : Nat} {sp : Nat → Bool} {held : Bool} {v : Value} {d : DataW H} {p : List MemPlace} {r : Reach}
    (hv : Value.okWide Try.prog w r b0 25 v) (h : DataW.Trod enc Try.prog w base sp held 25 v d p) :
    ∃ (s : ByteArray) (n : Int), v = .agg #[.string s, .int .i64 n] ∧ s.size ≤ maxLen ∧ i64ok n := by
  obtain ⟨c0, c1, y0, y1, m, rfl, rfl, rfl, hy0, hy1⟩ := open_agg2 Try.underlying25 (by kernel_rfl) Try.cells25 hv h
  obtain ⟨s, e0, _, hs⟩ := DataW.trod_string Try.underlying9 hy0
  obtain ⟨n, e1, _, wn⟩ := DataW.trod_int Try.underlying3 hy1
  simp at e0 e1
  subst e0 e1
  exact ⟨s, n, rfl, hs, i64_bounds wn⟩
theorem open_i64 {H : Type} {enc : TypeId × Value → H} {w : World} {base b0 : Nat} {sp : Nat → Bool} {held : Bool} {v : Value} {d : DataW H} {p : List MemPlace} {r : Reach} {t : TypeId} (ht : Try.prog.underlying t = some (.int .i64))
    (hv : Value.okWide Try.prog w r b0 t v) (h : DataW.Trod enc Try.prog w base sp held t v d p) : ∃ n : Int, v = .int .i64 n ∧ i64ok n := by
  obtain ⟨n, rfl, _, _, wn⟩ := open_int ht hv h
  exact ⟨n, rfl, i64_bounds wn⟩
end Go.Proofs.Ytdgjbejbbmnhbaa
