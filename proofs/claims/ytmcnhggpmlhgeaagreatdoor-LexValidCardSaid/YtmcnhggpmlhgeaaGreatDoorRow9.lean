/-
  The rows of law09: what the listed tables give the walk.
-/
import Derived.Test.YtmcnhggpmlhgeaaGreatDoorLwb
import Derived.Test.YtmcnhggpmlhgeaaGreatDoorCards
import Derived.Test.YtmcnhggpmlhgeaaGreatDoorTie
import Derived.Test.YtmcnhggpmlhgeaaGreatDoorRow
import Derived.Deep.DeepHandedRow
import Derived.Lib.LaidTab
namespace Go.Proofs.YtmcnhggpmlhgeaaGreatDoor
open Go.ChangeShapes Go.WideShapes Go.ChangeAt Go.RowKit Go.Joins
theorem pow_global : Tryz.prog.globalNamed "internal/strconv.uint64pow10" = some 2 := by kernel_rfl
theorem pow_type : (Tryz.prog.globals[2]?).map (·.type) = some 144 := by kernel_rfl
theorem pow_cells : Tryz.prog.cellsOf 144 = 20 := by kernel_rfl
theorem u64_cells : Tryz.prog.cellsOf 34 = 1 := by kernel_rfl
theorem pow_data : (Rows.laid_internal_strconv_uint64pow10 : DataW Unit) = Lib.tabData .u64 Lib.pow10Tab := rfl
theorem as_global : Tryz.prog.globalNamed "strings.asciiSpace" = some 0 := by kernel_rfl
set_option maxRecDepth 100000 in
theorem as_data : (Rows.laid_strings_asciiSpace : DataW Unit) = Lib.tabData .u8 Lib.asciiSpaceTab := rfl
theorem as_type : (Tryz.prog.globals[0]?).map (·.type) = some 85 := by kernel_rfl
theorem as_cells : Tryz.prog.cellsOf 85 = 256 := by kernel_rfl
theorem u8_cells : Tryz.prog.cellsOf 5 = 1 := by kernel_rfl
theorem er_global : Tryz.prog.globalNamed "strconv.ErrRange" = some 5 := by kernel_rfl
theorem var_lt {W : World} {n : String} {g : Nat} {cs : Array Value} (hg : Tryz.prog.globalNamed n = some g) (h : W.var? Tryz.prog n = some cs) : g < W.heap.size := by
  rcases Nat.lt_or_ge g W.heap.size with h1 | h1
  · exact h1
  · unfold World.var? at h
    rw [hg, Option.bind_some, Array.getElem?_eq_none h1] at h
    cases h
theorem er_under : ∀ {t : TypeId}, (Tryz.prog.globals[5]?).map (·.type) = some t → ∃ x, Tryz.prog.underlying t = some (.interface x) := by
  intro t h
  obtain rfl := Option.some.inj ((show (Tryz.prog.globals[5]?).map (·.type) = some 55 by kernel_rfl).symm.trans h)
  exact ⟨_, Tryz.underlying55⟩
theorem tok_size : Tryz.prog.cellsOf 36 = 4 := by kernel_rfl
/-- what an interface that is not nil lies as -/
theorem trod_iface {H : Type} {enc : TypeId × Value → H} {w : World} {base : Nat} {sp : Nat → Bool} {held : Bool} {fuel : Nat} {t : TypeId} {cs : List Value} {nm : String} {d : DataW H} {p : List MemPlace} {ot : Option TypeId}
    (hu : ∀ {t : TypeId}, ot = some t → ∃ x, Tryz.prog.underlying t = some (.interface x)) (ht : ot = some t)
    (h : DataW.trod enc Tryz.prog w base sp held fuel t cs = some (.iface nm d, p)) : ∃ u v, [Value.iface u v] = cs := by
  obtain ⟨x, hx⟩ := hu ht
  cases fuel with
  | zero => cases h
  | succ fuel =>
    unfold DataW.trod at h
    rw [hx] at h
    split at h <;> first | exact ⟨_, _, rfl⟩ | cases h | (simp_all; done)
theorem tb_laid {W : World} {n1 n2 : String} {d1 d2 d5 d6 : DataW Unit} (h : laidMet Tryz.prog [(n1, d1), (n2, d2), ("internal/strconv.uint64pow10", Rows.laid_internal_strconv_uint64pow10), ("strconv.ErrRange", Rows.laid_strconv_ErrRange), ("strconv.ErrSyntax", d5), ("unicode.White_Space", d6), ("strings.asciiSpace", Rows.laid_strings_asciiSpace)] W) : Tb W := by
  obtain ⟨ps, ⟨_, _, _, _, _, _, _, _, _, _, ⟨_, _, _, _, _, _, _, _, _, _, ⟨g3, t3, cs3, fuel3, p3, q3, hg3, ht3, hvar3, hd3, ⟨g4, t4, cs4, fuel4, p4, q4, hg4, ht4, hvar4, hd4, ⟨g5, _, _, _, _, _, hg5, _, hvar5, _, ⟨g6, _, _, _, _, _, hg6, _, hvar6, _, ⟨g7, t7, cs7, fuel7, p7, q7, hg7, ht7, hvar7, hd7, _, _⟩, _⟩, _⟩, _⟩, _⟩, _⟩, _⟩, _⟩ := h
  obtain rfl := Option.some.inj (pow_global.symm.trans hg3)
  obtain rfl := Option.some.inj (pow_type.symm.trans ht3)
  obtain rfl := Option.some.inj (er_global.symm.trans hg4)
  obtain rfl := Option.some.inj (as_global.symm.trans hg7)
  obtain rfl := Option.some.inj (as_type.symm.trans ht7)
  have hB5 := var_lt (show _ = some 4 by kernel_rfl) hvar5
  have hB6 := var_lt (show _ = some 1 by kernel_rfl) hvar6
  have hB4 := var_lt er_global hvar4
  have hB3 := var_lt pow_global hvar3
  have hB7 := var_lt as_global hvar7
  have hP : Lib.TabIs Tryz.prog W "internal/strconv.uint64pow10" .u64 Lib.pow10Tab := by
    unfold Lib.TabIs
    rw [pow_data] at hd3
    rw [hvar3, ← Lib.cells_of_tab Tryz.underlying144 Tryz.underlying34 u64_cells pow_cells hd3]
  have hS : As W := by
    unfold As Lib.TabIs
    rw [as_data] at hd7
    rw [hvar7, ← Lib.cells_of_tab Tryz.underlying85 Tryz.underlying5 u8_cells as_cells hd7]
  refine ⟨hS, ?_, hP, by omega⟩
  obtain ⟨u, v, hv⟩ := trod_iface er_under ht4 hd4
  refine ⟨u, v, ?_⟩
  rw [hvar4]
  exact congrArg some (Array.toList_inj.1 (show cs4.toList = #[Value.iface u v].toList from hv.symm))
set_option maxRecDepth 100000 in
/-- one token of four cells, opened -/
theorem trod_tok {H : Type} {enc : TypeId × Value → H} {w : World} {base : Nat} {sp : Nat → Bool} {held : Bool} {fuel : Nat} {cs : List Value} {x : DataW H × List MemPlace}
    (h : DataW.trod enc Tryz.prog w base sp held fuel 36 cs = some x) : ∃ t : Tok, cs = tkC t ∧ t.tx.length ≤ 9223372036854775807 := by
  obtain ⟨xs, n, hn, hx, hsz, hlen, hg⟩ := DataW.trod_struct Tryz.underlying36 h
  rw [tok_size] at hsz
  match cs, hsz with
  | [c0, c1, c2, c3], _ =>
    match xs, hlen with
    | [y0, y1, y2, y3], _ =>
      have o0 : Tryz.prog.cellsOf 3 = 1 := by kernel_rfl
      have o1 : Tryz.prog.cellsOf 34 = 1 := by kernel_rfl
      have o2 : Tryz.prog.cellsOf 9 = 1 := by kernel_rfl
      have g0 := hg 0 _ rfl
      have g1 := hg 1 _ rfl
      have g2 := hg 2 _ rfl
      have g3 := hg 3 _ rfl
      simp [o0, o1, o2] at g0 g1 g2 g3
      obtain ⟨k0, e0, _, w0⟩ := DataW.trod_int Tryz.underlying3 g0
      obtain ⟨k1, e1, _, s1⟩ := DataW.trod_string Tryz.underlying9 g1
      obtain ⟨k2, e2, _, w2⟩ := DataW.trod_int Tryz.underlying34 g2
      obtain ⟨k3, e3, _, w3⟩ := DataW.trod_int Tryz.underlying3 g3
      simp at e0 e1 e2 e3
      subst e0 e1 e2 e3
      have h2 : 0 ≤ k2 := by
        simp [Lit.wf, IntKind.min, IntKind.max, IntKind.signed, IntKind.bits] at w2
        omega
      have hb : ba (bl k1) = k1 := by cases k1; simp [ba, bl]
      refine ⟨⟨k0, bl k1, k2.toNat, k3⟩, ?_, ?_⟩
      · unfold tkC
        simp only
        rw [hb, Int.toNat_of_nonneg h2]
      · have : (bl k1).length = k1.size := by rw [← ba_size, hb]
        show (bl k1).length ≤ _
        rw [this]
        exact s1
theorem tok_off (b o k : Nat) : (⟨b, o, none⟩ : Addr).add k = ⟨b, o + k, none⟩ := by
  unfold Addr.add; split
  · rename_i h; subst h; rfl
  · rfl
set_option maxRecDepth 100000 in
/-- a row of tokens, element by element -/
theorem toks_read {H : Type} {enc : TypeId × Value → H} {w : World} {base : Nat} {sp : Nat → Bool} {held : Bool} {n : Nat} (b : Nat) :
    ∀ (len o : Nat), (∀ i, i < len → ∃ cs' z, (∀ j, j < 4 → w.cell? ⟨b, o + i * 4 + j, none⟩ = cs'[j]?) ∧ DataW.trod enc Tryz.prog w base sp held n 36 cs' = some z) →
    ∃ l : List Tok, l.length = len ∧ (∀ t ∈ l, t.tx.length ≤ 9223372036854775807) ∧ ∀ j u, (tksC l)[j]? = some u → w.cell? ⟨b, o + j, none⟩ = some u := by
  intro len
  induction len with
  | zero => exact fun o _ => ⟨[], rfl, (fun _ h => by cases h), (fun _ _ h => by cases h)⟩
  | succ len ihl =>
    intro o h
    obtain ⟨r, hr, hrt, hrc⟩ := ihl (o + 4) fun i hi => by
      obtain ⟨cs', z, h1, h2⟩ := h (i + 1) (by omega)
      exact ⟨cs', z, fun j hj => by rw [show o + 4 + i * 4 + j = o + (i + 1) * 4 + j by omega]; exact h1 j hj, h2⟩
    obtain ⟨cs', z, h1, h2⟩ := h 0 (by omega)
    obtain ⟨t, rfl, ht⟩ := trod_tok h2
    refine ⟨t :: r, by rw [List.length_cons, hr], fun x hx => ?_, fun j u hj => ?_⟩
    · rcases List.mem_cons.1 hx with hx | hx
      · rw [hx]; exact ht
      · exact hrt x hx
    · rw [show tksC (t :: r) = tkC t ++ tksC r from rfl] at hj
      rcases Nat.lt_or_ge j 4 with h4 | h4
      · rw [List.getElem?_append_left (show j < (tkC t).length from h4)] at hj
        have := h1 j h4
        rw [show o + 0 * 4 + j = o + j by omega, hj] at this
        exact this
      · rw [List.getElem?_append_right (show (tkC t).length ≤ j from h4)] at hj
        have := hrc (j - 4) u hj
        rwa [show o + 4 + (j - 4) = o + j by omega] at this
set_option maxRecDepth 100000 in
/-- a row of tokens among the arguments -/
theorem open_toks {H : Type} {enc : TypeId × Value → H} {w : World} {base b0 : Nat} {sp : Nat → Bool} {held : Bool} {v : Value} {d : DataW H} {p : List MemPlace} {r : Reach}
    (hv : Value.okWide Tryz.prog w r b0 23 v) (h : DataW.Trod enc Tryz.prog w base sp held 23 v d p) : ∃ l, RdW w w.heap.size v l ∧ ∀ t ∈ l, t.tx.length ≤ 9223372036854775807 := by
  obtain ⟨fuel, hf⟩ := h
  obtain ⟨ao, n0, cap0, rfl⟩ := okWide_slice Tryz.underlying23 hv
  rcases DataW.trod_slice Tryz.underlying23 hf with ⟨h0, _⟩ | ⟨a, len, cap, elems, rest, n, hn, hcs, _, hb, hl, hm, hlen, hel, _, _⟩
  · simp [Value.cells] at h0
    obtain ⟨rfl, rfl, rfl⟩ := h0
    exact ⟨[], ⟨none, 0, rfl, Nat.le_refl _, by simp, fun h => absurd rfl h⟩, fun _ h => by cases h⟩
  · simp [Value.cells] at hcs
    obtain ⟨rfl, rfl, rfl⟩ := hcs
    have hx : ∀ i, i < n0 → ∃ cs' z, w.cells? base (a.add (i * 4)) 4 = some cs' ∧ DataW.trod enc Tryz.prog w base sp held n 36 cs' = some z := fun i hi => by
      have := hel i hi
      rw [tok_size, List.getElem?_eq_getElem (by omega)] at this
      obtain ⟨cs', h1, h2⟩ := Option.bind_eq_some_iff.1 this
      exact ⟨cs', _, h1, h2⟩
    have hmx : n0 ≤ 9223372036854775807 := Nat.le_trans hl hm
    by_cases h0 : n0 = 0
    · subst h0
      exact ⟨[], ⟨some a, cap0, rfl, hl, by simp, fun h => absurd rfl h⟩, fun _ h => by cases h⟩
    · obtain ⟨cs0, z0, hc0, hz0⟩ := hx 0 (by omega)
      obtain ⟨b, o, spot⟩ := a
      have hblk := World.cells?_block hc0 (by omega)
      obtain ⟨_, hl0, hcell⟩ := World.cells?_some hc0
      have hspot : spot = none := by
        have h1 := hcell 0 (by omega)
        rw [List.getElem?_eq_getElem (by omega)] at h1
        simpa [Addr.add] using World.cell?_spot h1
      subst hspot
      obtain ⟨l, hll, hlt, hrd⟩ := toks_read (n := n) b n0 o fun i hi => by
        obtain ⟨cs', z, h1, h2⟩ := hx i hi
        obtain ⟨_, _, h3⟩ := World.cells?_some h1
        refine ⟨cs', z, fun j hj => ?_, h2⟩
        have := h3 j hj
        rw [tok_off, tok_off] at this
        exact this
      refine ⟨l, ⟨_, cap0, by rw [hll], by omega, by omega, fun _ => ⟨b, o, rfl, by simpa [Addr.add] using hblk, hrd⟩⟩, hlt⟩
set_option maxRecDepth 100000 in
/-- a token among the arguments -/
theorem open_tok {H : Type} {enc : TypeId × Value → H} {w : World} {base b0 : Nat} {sp : Nat → Bool} {held : Bool} {v : Value} {d : DataW H} {p : List MemPlace} {r : Reach}
    (hv : Value.okWide Tryz.prog w r b0 36 v) (h : DataW.Trod enc Tryz.prog w base sp held 36 v d p) : ∃ t : Tok, v = .agg #[.int .i64 t.k, .string (ba t.tx), .int .u64 (t.n : Int), .int .i64 t.pos] ∧ t.tx.length ≤ 9223372036854775807 := by
  obtain ⟨cs, rfl, hsz⟩ := okWide_struct Tryz.underlying36 hv
  obtain ⟨fuel, hf⟩ := h
  obtain ⟨t, hcs, ht⟩ := trod_tok hf
  refine ⟨t, ?_, ht⟩
  obtain ⟨l⟩ := cs
  simp [Value.cells] at hcs
  subst hcs
  rfl
end Go.Proofs.YtmcnhggpmlhgeaaGreatDoor
