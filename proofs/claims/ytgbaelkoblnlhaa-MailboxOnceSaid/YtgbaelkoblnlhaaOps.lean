/-
  Scripts: rows of a number and a term each, opened whole.
-/
import Derived.Test.YtgbaelkoblnlhaaTrod
namespace Go.Proofs.Ytgbaelkoblnlhaa
open Go.ChangeShapes Go.WideShapes Go.ChangeAt Go.RowKit Go.Joins Go.Deep
/-- a row of numbers and terms that lies in memory -/
def RdO (w : World) (ks : Nat → Int) (l : TL) (v : Value) : Prop := ∃ ao cap, v = .slice ao l.len cap ∧ l.len ≤ cap ∧ cap ≤ maxLen ∧ (l ≠ .nil → ∃ b o, ao = some ⟨b, o, none⟩ ∧ b < w.heap.size ∧
    ∀ i f it r, l.drop i = .cons f it r → ∃ ai ci, (∀ j u, (Value.int .i64 (ks i) :: f.cells (.slice ai it.len ci))[j]? = some u → w.cell? ⟨b, o + i * 10 + j, none⟩ = some u) ∧ RdS w 0 w.heap.size it (.slice ai it.len ci))
theorem RdO.below {w w' : World} {ks : Nat → Int} {l : TL} {v : Value} (h : RdO w ks l v) (hb : Below w.heap.size w w') : RdO w' ks l v := by
  obtain ⟨ao, cap, e, h1, h2, h3⟩ := h
  refine ⟨ao, cap, e, h1, h2, fun hn => ?_⟩
  obtain ⟨b, o, e, hbw, h⟩ := h3 hn
  refine ⟨b, o, e, Nat.lt_of_lt_of_le hbw hb.size, fun i f it r hd => ?_⟩
  obtain ⟨ai, ci, hc, hi⟩ := h i f it r hd
  exact ⟨ai, ci, fun j u hu => (hb.cell (p := ⟨b, o + i * 10 + j, none⟩) hbw).trans (hc j u hu), (hi.below hb (Nat.le_refl _)).more hb.size⟩
theorem i64_zero : i64ok 0 := by constructor <;> decide
theorem Try.cells72 : Try.prog.cellsOf 72 = 10 := by kernel_rfl
/-- a number and a term, opened -/
theorem trod_ten {H : Type} {enc : TypeId × Value → H} {w : World} {base : Nat} {sp : Nat → Bool} {held : Bool} {fuel : Nat} {cs : List Value} {x : DataW H × List MemPlace}
    (h : DataW.trod enc Try.prog w base sp held fuel 72 cs = some x) : ∃ (k : Int) (f : Fd) (it : TL) (iv : Value), cs = .int .i64 k :: f.cells iv ∧ i64ok k ∧ RdS w 0 w.heap.size it iv ∧ it.wf := by
  have hs := Try.underlying72
  obtain ⟨xs, n, hn, hx, hsz, hlen, hg⟩ := DataW.trod_struct hs h
  rw [Try.cells72] at hsz
  match cs, hsz with
  | [c0, c1, c2, c3, c4, c5, c6, c7, c8, c9], _ =>
    match xs, hlen with
    | [y0, y1], _ =>
      have o0 : Try.prog.cellsOf 3 = 1 := by kernel_rfl
      have o1 := Try.cells24
      have g0 := hg 0 _ rfl
      have g1 := hg 1 _ rfl
      simp [o0, o1] at g0 g1
      obtain ⟨k0, e0, _, w0⟩ := DataW.trod_int Try.underlying3 g0
      simp at e0
      subst e0
      obtain ⟨f, iv, y, m, _, e1, _, hy⟩ := trod_nine g1
      obtain ⟨it, hit, hw⟩ := row_open m iv y hy
      exact ⟨k0, f, it, iv, by rw [← e1], i64_bounds w0, hit, hw⟩
/-- a row of them, element by element -/
theorem ops_read {H : Type} {enc : TypeId × Value → H} {w : World} {base : Nat} {sp : Nat → Bool} {held : Bool} {n : Nat} (b : Nat) :
    ∀ (len o : Nat), (∀ i, i < len → ∃ cs' z, (∀ j, j < 10 → w.cell? ⟨b, o + i * 10 + j, none⟩ = cs'[j]?) ∧ DataW.trod enc Try.prog w base sp held n 72 cs' = some z) →
    ∃ (ks : Nat → Int) (l : TL), l.len = len ∧ (∀ i, i64ok (ks i)) ∧ ∀ i f it r, l.drop i = .cons f it r → ∃ ai ci, (∀ j u, (Value.int .i64 (ks i) :: f.cells (.slice ai it.len ci))[j]? = some u → w.cell? ⟨b, o + i * 10 + j, none⟩ = some u) ∧ RdS w 0 w.heap.size it (.slice ai it.len ci) := by
  intro len
  induction len with
  | zero => exact fun o _ => ⟨fun _ => 0, .nil, rfl, fun _ => i64_zero, fun i f it r h => by cases i <;> simp [TL.drop] at h⟩
  | succ len ih =>
    intro o h
    obtain ⟨ks, r, hr, hks, hrd⟩ := ih (o + 10) fun i hi => by
      obtain ⟨cs', z, h1, h2⟩ := h (i + 1) (by omega)
      exact ⟨cs', z, fun j hj => by rw [show o + 10 + i * 10 + j = o + (i + 1) * 10 + j by omega]; exact h1 j hj, h2⟩
    obtain ⟨cs', z, h1, h2⟩ := h 0 (by omega)
    obtain ⟨k, f, it, iv, rfl, hk, hit, _⟩ := trod_ten h2
    obtain ⟨ai, ci, rfl⟩ := hit.slice
    refine ⟨fun i => match i with | 0 => k | i + 1 => ks i, .cons f it r, by simp only [TL.len]; omega, fun i => ?_, fun i f' it' r' hd => ?_⟩
    · cases i with
      | zero => exact hk
      | succ i => exact hks i
    · cases i with
      | zero =>
        rw [TL.drop] at hd
        injection hd with e1 e2 e3
        subst e1 e2
        refine ⟨ai, ci, fun j u hu => ?_, hit⟩
        have hj : j < 10 := by
          rcases Nat.lt_or_ge j 10 with h | h
          · exact h
          · rw [List.getElem?_eq_none (by simpa [Fd.cells] using h)] at hu; cases hu
        exact (h1 j hj).trans hu
      | succ i =>
        obtain ⟨ai', ci', hc, hi⟩ := hrd i f' it' r' hd
        exact ⟨ai', ci', fun j u hu => by rw [show o + (i + 1) * 10 + j = o + 10 + i * 10 + j by omega]; exact hc j u hu, hi⟩
/-- a script among the arguments -/
theorem open_ops {H : Type} {enc : TypeId × Value → H} {w : World} {base b0 : Nat} {sp : Nat → Bool} {held : Bool} {v : Value} {d : DataW H} {p : List MemPlace} {r : Reach}
    (hv : Value.okWide Try.prog w r b0 68 v) (h : DataW.Trod enc Try.prog w base sp held 68 v d p) : ∃ ks l, RdO w ks l v ∧ (∀ i, i64ok (ks i)) ∧ ((l.len = 0) ∨ ∃ elems spare, d = .slice elems spare ∧ elems.length = l.len) := by
  obtain ⟨fuel, hf⟩ := h
  obtain ⟨ao, n, cap, rfl⟩ := okWide_slice Try.underlying68 hv
  have hf' : DataW.trod enc Try.prog w base sp held fuel 68 [.slice ao n cap] = some (d, p) := hf
  rcases DataW.trod_slice Try.underlying68 hf' with ⟨h0, _⟩ | ⟨a, len, cap', elems, rest, n', hn, hcs, hx0, hb, hl, hm, hlen, hel, _, _⟩
  · simp at h0
    obtain ⟨rfl, rfl, rfl⟩ := h0
    exact ⟨fun _ => 0, .nil, ⟨none, 0, rfl, Nat.le_refl _, by unfold maxLen; omega, fun h => absurd rfl h⟩, fun _ => i64_zero, .inl rfl⟩
  · simp at hcs
    obtain ⟨rfl, rfl, rfl⟩ := hcs
    have hx : ∀ i, i < n → ∃ cs' z, w.cells? base (a.add (i * 10)) 10 = some cs' ∧ DataW.trod enc Try.prog w base sp held n' 72 cs' = some z := fun i hi => by
      have := hel i hi
      rw [Try.cells72, List.getElem?_eq_getElem (by omega)] at this
      obtain ⟨cs', h1, h2⟩ := Option.bind_eq_some_iff.1 this
      exact ⟨cs', _, h1, h2⟩
    by_cases h0 : n = 0
    · subst h0
      exact ⟨fun _ => 0, .nil, ⟨some a, cap, rfl, hl, hm, fun h => absurd rfl h⟩, fun _ => i64_zero, .inl rfl⟩
    · obtain ⟨cs0, z0, hc0, hz0⟩ := hx 0 (by omega)
      obtain ⟨b, o, spot⟩ := a
      have hblk := World.cells?_block hc0 (by omega)
      obtain ⟨_, hl0, hcell⟩ := World.cells?_some hc0
      have hspot : spot = none := by
        have h1 := hcell 0 (by omega)
        rw [List.getElem?_eq_getElem (by omega)] at h1
        simpa [Addr.add] using World.cell?_spot h1
      subst hspot
      obtain ⟨ks, l, hll, hks, hrd⟩ := ops_read (n := n') (enc := enc) (base := base) (sp := sp) (held := held) (w := w) b n o fun i hi => by
        obtain ⟨cs', z, h1, h2⟩ := hx i hi
        obtain ⟨_, _, h3⟩ := World.cells?_some h1
        refine ⟨cs', z, fun j hj => ?_, h2⟩
        have := h3 j hj
        rw [add_off, add_off] at this
        exact this
      exact ⟨ks, l, ⟨_, cap, by rw [hll], by omega, hm, fun _ => ⟨b, o, rfl, by simpa [Addr.add] using hblk, hrd⟩⟩, hks, .inr ⟨elems.map (·.1), rest.map (·.1), by injection hx0, by rw [List.length_map, hlen, hll]⟩⟩
end Go.Proofs.Ytgbaelkoblnlhaa
