/-
  Terms and rows of terms among the arguments, opened whole.
-/
import Derived.Test.YtgfodedmcjkmaaaDoorRow
import Derived.Test.YtgfodedmcjkmaaaDoorRx
import Derived.Deep.Slices
import Derived.Deep.Fields
namespace Go.Proofs.YtgfodedmcjkmaaaDoor
open Go.ChangeShapes Go.WideShapes Go.ChangeAt Go.RowKit Go.Joins Go.Deep
theorem Tryd.cells24 : Tryd.prog.cellsOf 24 = 9 := by kernel_rfl
def i64ok (n : Int) : Prop := -9223372036854775808 ≤ n ∧ n ≤ 9223372036854775807
/-- what a term's fields are within, as the model reads them -/
def Fd.wf (f : Fd) : Prop := i64ok f.k ∧ i64ok f.i ∧ i64ok f.g ∧ f.nm.size ≤ maxLen ∧ f.fn.size ≤ maxLen ∧ i64ok f.ar ∧ f.bs.size ≤ maxLen ∧ i64ok f.n
def TL.wf : TL → Prop
  | .nil => True
  | .cons f it r => f.wf ∧ it.wf ∧ r.wf
set_option maxRecDepth 100000 in
/-- one term of nine cells, opened; its items are read with less fuel -/
theorem trod_nine {H : Type} {enc : TypeId × Value → H} {w : World} {base : Nat} {sp : Nat → Bool} {held : Bool} {fuel : Nat} {cs : List Value} {x : DataW H × List MemPlace}
    (h : DataW.trod enc Tryd.prog w base sp held fuel 24 cs = some x) : ∃ (f : Fd) (iv : Value) (y : DataW H × List MemPlace) (m : Nat), fuel = m + 1 ∧ cs = f.cells iv ∧ f.wf ∧ DataW.trod enc Tryd.prog w base sp held m 22 [iv] = some y := by
  have hs := Tryd.underlying24
  obtain ⟨xs, n, hn, hx, hsz, hlen, hg⟩ := DataW.trod_struct hs h
  rw [Tryd.cells24] at hsz
  match cs, hsz with
  | [c0, c1, c2, c3, c4, c5, c6, c7, c8], _ =>
    match xs, hlen with
    | [y0, y1, y2, y3, y4, y5, y6, y7, y8], _ =>
      have o0 : Tryd.prog.cellsOf 3 = 1 := by kernel_rfl
      have o1 : Tryd.prog.cellsOf 2 = 1 := by kernel_rfl
      have o2 : Tryd.prog.cellsOf 9 = 1 := by kernel_rfl
      have o3 : Tryd.prog.cellsOf 22 = 1 := by kernel_rfl
      have g0 := hg 0 _ rfl
      have g1 := hg 1 _ rfl
      have g2 := hg 2 _ rfl
      have g3 := hg 3 _ rfl
      have g4 := hg 4 _ rfl
      have g5 := hg 5 _ rfl
      have g6 := hg 6 _ rfl
      have g7 := hg 7 _ rfl
      have g8 := hg 8 _ rfl
      simp [o0, o1, o2, o3] at g0 g1 g2 g3 g4 g5 g6 g7 g8
      obtain ⟨k0, e0, _, w0⟩ := DataW.trod_int Tryd.underlying3 g0
      obtain ⟨k1, e1, _, w1⟩ := DataW.trod_int Tryd.underlying2 g1
      obtain ⟨k2, e2, _, w2⟩ := DataW.trod_int Tryd.underlying2 g2
      obtain ⟨k3, e3, _, s3⟩ := DataW.trod_string Tryd.underlying9 g3
      obtain ⟨k4, e4, _, s4⟩ := DataW.trod_string Tryd.underlying9 g4
      obtain ⟨k5, e5, _, w5⟩ := DataW.trod_int Tryd.underlying3 g5
      obtain ⟨k7, e7, _, s7⟩ := DataW.trod_string Tryd.underlying9 g7
      obtain ⟨k8, e8, _, w8⟩ := DataW.trod_int Tryd.underlying3 g8
      simp at e0 e1 e2 e3 e4 e5 e7 e8
      subst e0 e1 e2 e3 e4 e5 e7 e8
      exact ⟨⟨k0, k1, k2, k3, k4, k5, k7, k8⟩, c6, y6, n, hn, rfl, ⟨i64_bounds w0, i64_bounds w1, i64_bounds w2, s3, s4, i64_bounds w5, s7, i64_bounds w8⟩, g6⟩
theorem add_off (b o k : Nat) : (⟨b, o, none⟩ : Addr).add k = ⟨b, o + k, none⟩ := by
  unfold Addr.add; split
  · rename_i h; subst h; rfl
  · rfl
set_option maxRecDepth 100000 in
/-- a row of terms, element by element -/
theorem row_read {H : Type} {enc : TypeId × Value → H} {w : World} {base : Nat} {sp : Nat → Bool} {held : Bool} {n : Nat}
    (ih : ∀ (m : Nat) (iv : Value) (y : DataW H × List MemPlace), m < n → DataW.trod enc Tryd.prog w base sp held m 22 [iv] = some y → ∃ l, RdS w 0 w.heap.size l iv ∧ l.wf) (b : Nat) :
    ∀ (len o : Nat), b < w.heap.size → (∀ i, i < len → ∃ cs' z, (∀ j, j < 9 → w.cell? ⟨b, o + i * 9 + j, none⟩ = cs'[j]?) ∧ DataW.trod enc Tryd.prog w base sp held n 24 cs' = some z) →
    ∃ l : TL, l.len = len ∧ Rd w 0 w.heap.size l b o ∧ l.wf := by
  intro len
  induction len with
  | zero => exact fun o _ _ => ⟨.nil, rfl, trivial, trivial⟩
  | succ len ihl =>
    intro o hb h
    obtain ⟨r, hr, hrd, hrw⟩ := ihl (o + 9) hb fun i hi => by
      obtain ⟨cs', z, h1, h2⟩ := h (i + 1) (by omega)
      exact ⟨cs', z, fun j hj => by rw [show o + 9 + i * 9 + j = o + (i + 1) * 9 + j by omega]; exact h1 j hj, h2⟩
    obtain ⟨cs', z, h1, h2⟩ := h 0 (by omega)
    obtain ⟨f, iv, y, m, hm, rfl, hf, hy⟩ := trod_nine h2
    obtain ⟨it, hit, hiw⟩ := ih m iv y (by omega) hy
    obtain ⟨ao, cap, rfl, q1, q2, q3⟩ := hit
    refine ⟨.cons f it r, by simp only [TL.len]; omega, ⟨Nat.zero_le _, hb, ⟨ao, cap, fun j v hj => ?_, q1, q2, q3⟩, hrd⟩, hf, hiw, hrw⟩
    have hj9 : j < 9 := by
      rcases Nat.lt_or_ge j 9 with h | h
      · exact h
      · rw [List.getElem?_eq_none (by simpa [Fd.cells] using h)] at hj; cases hj
    have := h1 j hj9
    rw [show o + 0 * 9 + j = o + j by omega, hj] at this
    exact this
set_option maxRecDepth 100000 in
theorem row_open {H : Type} {enc : TypeId × Value → H} {w : World} {base : Nat} {sp : Nat → Bool} {held : Bool} : ∀ (fuel : Nat) (iv : Value) (y : DataW H × List MemPlace),
    DataW.trod enc Tryd.prog w base sp held fuel 22 [iv] = some y → ∃ l, RdS w 0 w.heap.size l iv ∧ l.wf := by
  intro fuel
  induction fuel using Nat.strongRecOn with
  | _ fuel ih =>
    intro iv y h
    rcases DataW.trod_slice Tryd.underlying22 h with ⟨h0, _⟩ | ⟨a, len, cap, elems, rest, n, hn, hcs, _, hb, hl, hm, hlen, hel, _, _⟩
    · simp at h0
      subst h0
      exact ⟨.nil, RdS.nil _ _ _, trivial⟩
    · simp at hcs
      subst hcs
      have hx : ∀ i, i < len → ∃ cs' z, w.cells? base (a.add (i * 9)) 9 = some cs' ∧ DataW.trod enc Tryd.prog w base sp held n 24 cs' = some z := fun i hi => by
        have := hel i hi
        rw [Tryd.cells24, List.getElem?_eq_getElem (by omega)] at this
        obtain ⟨cs', h1, h2⟩ := Option.bind_eq_some_iff.1 this
        exact ⟨cs', _, h1, h2⟩
      by_cases h0 : len = 0
      · subst h0
        exact ⟨.nil, ⟨some a, cap, rfl, hl, hm, fun h => absurd rfl h⟩, trivial⟩
      · obtain ⟨cs0, z0, hc0, hz0⟩ := hx 0 (by omega)
        obtain ⟨b, o, spot⟩ := a
        have hblk := World.cells?_block hc0 (by omega)
        obtain ⟨_, hl0, hcell⟩ := World.cells?_some hc0
        have hspot : spot = none := by
          have h1 := hcell 0 (by omega)
          rw [List.getElem?_eq_getElem (by omega)] at h1
          simpa [Addr.add] using World.cell?_spot h1
        subst hspot
        obtain ⟨l, hll, hrd, hw⟩ := row_read (n := n) (fun m iv y hm hy => ih m (by omega) iv y hy) b len o (by simpa [Addr.add] using hblk) fun i hi => by
          obtain ⟨cs', z, h1, h2⟩ := hx i hi
          obtain ⟨_, _, h3⟩ := World.cells?_some h1
          refine ⟨cs', z, fun j hj => ?_, h2⟩
          have := h3 j hj
          rw [add_off, add_off] at this
          exact this
        refine ⟨l, ⟨_, cap, by rw [hll], by omega, hm, fun _ => ⟨b, o, rfl, hrd⟩⟩, hw⟩
set_option maxRecDepth 100000 in
/-- a row of terms among the arguments -/
theorem open_terms {H : Type} {enc : TypeId × Value → H} {w : World} {base b0 : Nat} {sp : Nat → Bool} {held : Bool} {v : Value} {d : DataW H} {p : List MemPlace} {r : Reach}
    (hv : Value.okWide Tryd.prog w r b0 22 v) (h : DataW.Trod enc Tryd.prog w base sp held 22 v d p) : ∃ l, RdS w 0 w.heap.size l v ∧ l.wf := by
  obtain ⟨fuel, hf⟩ := h
  obtain ⟨ao, n, cap, rfl⟩ := okWide_slice Tryd.underlying22 hv
  exact row_open fuel _ _ hf
set_option maxRecDepth 100000 in
/-- a term among the arguments -/
theorem open_term {H : Type} {enc : TypeId × Value → H} {w : World} {base b0 : Nat} {sp : Nat → Bool} {held : Bool} {v : Value} {d : DataW H} {p : List MemPlace} {r : Reach}
    (hv : Value.okWide Tryd.prog w r b0 24 v) (h : DataW.Trod enc Tryd.prog w base sp held 24 v d p) : ∃ f it, RdT w 0 w.heap.size f it v ∧ f.wf ∧ it.wf := by
  have hs := Tryd.underlying24
  obtain ⟨cs, rfl, hsz⟩ := okWide_struct hs hv
  obtain ⟨fuel, hf⟩ := h
  obtain ⟨f, iv, y, m, _, hcs, hw, hy⟩ := trod_nine hf
  obtain ⟨it, hit, hiw⟩ := row_open m iv y hy
  refine ⟨f, it, ⟨iv, ?_, hit⟩, hw, hiw⟩
  obtain ⟨l⟩ := cs
  simp [Value.cells] at hcs
  subst hcs
  rfl
end Go.Proofs.YtgfodedmcjkmaaaDoor
