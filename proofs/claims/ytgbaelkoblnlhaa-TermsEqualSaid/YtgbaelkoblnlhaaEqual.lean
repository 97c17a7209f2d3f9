/-
  Walks: the law TermsEqual: Same of any two terms; Copy answers an equal term that shares no list with its argument.
-/
import Derived.Test.YtgbaelkoblnlhaaGrowLaw
import Derived.Test.YtgbaelkoblnlhaaShown2
import Derived.Deep.RegionHeld3
namespace Go.Proofs.Ytgbaelkoblnlhaa
open Go.RowKit
def EqP0 (f : Fd) (it : TL) (ai : Option Addr) (ci : Nat) (x : Value) (_l _h : Nat) (_w : World) : Prop := x = .agg #[.int .i64 f.k, .int .i64 f.i, .int .i64 f.g, .string f.nm, .string f.fn, .int .i64 f.ar, .slice ai it.len ci, .string f.bs, .int .i64 f.n]
theorem EqC0 (f : Fd) (it : TL) (ai : Option Addr) (ci : Nat) {x : Value} {l h' : Nat} {w w' : World} (_hb : ∀ b, l ≤ b → b < h' → w'.heap[b]? = w.heap[b]?) (h : EqP0 f it ai ci x l h' w) : EqP0 f it ai ci x l h' w' := h
def EqP1 (w0 : World) (f : Fd) (it : TL) (ai : Option Addr) (ci : Nat) (H : Nat) (x : Value) (l h : Nat) (w : World) : Prop := ∃ aj cj, x = .agg #[.int .i64 f.k, .int .i64 f.i, .int .i64 f.g, .string f.nm, .string f.fn, .int .i64 f.ar, .slice aj it.len cj, .string f.bs, .int .i64 f.n] ∧ ∀ W', (∀ b, l ≤ b → b < h → W'.heap[b]? = w.heap[b]?) → Below w0.heap.size w0 W' → KpS W' l h 0 H it (.slice aj it.len cj) (.slice ai it.len ci)
theorem EqC1 (w0 : World) (f : Fd) (it : TL) (ai : Option Addr) (ci : Nat) (H : Nat) {x : Value} {l h' : Nat} {w w' : World} (hb : ∀ b, l ≤ b → b < h' → w'.heap[b]? = w.heap[b]?) (h : EqP1 w0 f it ai ci H x l h' w) : EqP1 w0 f it ai ci H x l h' w' := h.elim fun aj h => h.elim fun cj h => ⟨aj, cj, h.1, fun W1 h1 h2 => h.2 W1 (fun b a c => (h1 b a c).trans (hb b a c)) h2⟩
def EqP2 (f' : Fd) (it' : TL) (ai' : Option Addr) (ci' : Nat) (x : Value) (_l _h : Nat) (_w : World) : Prop := x = .agg #[.int .i64 f'.k, .int .i64 f'.i, .int .i64 f'.g, .string f'.nm, .string f'.fn, .int .i64 f'.ar, .slice ai' it'.len ci', .string f'.bs, .int .i64 f'.n]
theorem EqC2 (f' : Fd) (it' : TL) (ai' : Option Addr) (ci' : Nat) {x : Value} {l h' : Nat} {w w' : World} (_hb : ∀ b, l ≤ b → b < h' → w'.heap[b]? = w.heap[b]?) (h : EqP2 f' it' ai' ci' x l h' w) : EqP2 f' it' ai' ci' x l h' w' := h
def EqP3 (w0 : World) (f' : Fd) (it' : TL) (ai' : Option Addr) (ci' : Nat) (H : Nat) (x : Value) (l h : Nat) (w : World) : Prop := ∃ aj cj, x = .agg #[.int .i64 f'.k, .int .i64 f'.i, .int .i64 f'.g, .string f'.nm, .string f'.fn, .int .i64 f'.ar, .slice aj it'.len cj, .string f'.bs, .int .i64 f'.n] ∧ ∀ W', (∀ b, l ≤ b → b < h → W'.heap[b]? = w.heap[b]?) → Below w0.heap.size w0 W' → KpS W' l h 0 H it' (.slice aj it'.len cj) (.slice ai' it'.len ci')
theorem EqC3 (w0 : World) (f' : Fd) (it' : TL) (ai' : Option Addr) (ci' : Nat) (H : Nat) {x : Value} {l h' : Nat} {w w' : World} (hb : ∀ b, l ≤ b → b < h' → w'.heap[b]? = w.heap[b]?) (h : EqP3 w0 f' it' ai' ci' H x l h' w) : EqP3 w0 f' it' ai' ci' H x l h' w' := h.elim fun aj h => h.elim fun cj h => ⟨aj, cj, h.1, fun W1 h1 h2 => h.2 W1 (fun b a c => (h1 b a c).trans (hb b a c)) h2⟩
def EqP4  (x : Value) (l h : Nat) (w : World) : Prop := x = .pointer (some ⟨l, 0, none⟩) ∧ l < h ∧ w.heap[l]? = some (.cells #[.int .i64 0, .int .i64 0, .int .i64 0, .string ⟨#[]⟩, .string ⟨#[]⟩, .int .i64 0, .slice none 0 0, .string ⟨#[]⟩, .int .i64 0] 24 (0, 0))
theorem EqC4  {x : Value} {l h' : Nat} {w w' : World} (hb : ∀ b, l ≤ b → b < h' → w'.heap[b]? = w.heap[b]?) (h : EqP4  x l h' w) : EqP4  x l h' w' := ⟨h.1, h.2.1, (hb _ (Nat.le_refl _) h.2.1).trans h.2.2⟩
def EqP5  (x : Value) (l h : Nat) (w : World) : Prop := x = .pointer (some ⟨l, 0, none⟩) ∧ l < h ∧ w.heap[l]? = some (.cells #[.int .i64 0, .int .i64 0, .int .i64 0, .string ⟨#[]⟩, .string ⟨#[]⟩, .int .i64 0, .slice none 0 0, .string ⟨#[]⟩, .int .i64 0] 24 (0, 0))
theorem EqC5  {x : Value} {l h' : Nat} {w w' : World} (hb : ∀ b, l ≤ b → b < h' → w'.heap[b]? = w.heap[b]?) (h : EqP5  x l h' w) : EqP5  x l h' w' := ⟨h.1, h.2.1, (hb _ (Nat.le_refl _) h.2.1).trans h.2.2⟩
def EqG (w0 : World) (f : Fd) (it : TL) (ai : Option Addr) (ci : Nat) (f' : Fd) (it' : TL) (ai' : Option Addr) (ci' : Nat) (H : Nat) (i : Nat) (v : Nat → Value) (lo hi : Nat → Nat) (w : World) : Prop :=
  match i with
  | 0 => EqP0 f it ai ci (v 0) (lo 0) (hi 0) w
  | 1 => EqP1 w0 f it ai ci H (v 1) (lo 1) (hi 1) w
  | 2 => EqP2 f' it' ai' ci' (v 2) (lo 2) (hi 2) w
  | 3 => EqP3 w0 f' it' ai' ci' H (v 3) (lo 3) (hi 3) w
  | 4 => EqP4  (v 4) (lo 4) (hi 4) w
  | 5 => EqP5  (v 5) (lo 5) (hi 5) w
  | _ => True
def EqD : List (List Nat) := [[], [0], [], [2], [], []]
def Eqd : List (Option Nat) := [some 14, some 15, some 16, some 17, some 5, some 6]
theorem EqG_keep (w0 : World) (f : Fd) (it : TL) (ai : Option Addr) (ci : Nat) (f' : Fd) (it' : TL) (ai' : Option Addr) (ci' : Nat) (H : Nat) (i : Nat) (v : Nat → Value) (lo hi : Nat → Nat) (w : World) (v' : Nat → Value) (lo' hi' : Nat → Nat) (w' : World) (hin : i < 6) (hsame : ∀ k, k = i ∨ k ∈ EqD.getD i [] → v' k = v k ∧ lo' k = lo k ∧ hi' k = hi k) (hb : ∀ k, k = i ∨ k ∈ EqD.getD i [] → ∀ b, lo k ≤ b → b < hi k → w'.heap[b]? = w.heap[b]?) (h : EqG w0 f it ai ci f' it' ai' ci' H i v lo hi w) : EqG w0 f it ai ci f' it' ai' ci' H i v' lo' hi' w' := by
  obtain ⟨e1, e2, e3⟩ := hsame i (.inl rfl)
  have hb0 := hb i (.inl rfl)
  match i, hin with
  | 0, _ =>
    show EqP0 f it ai ci (v' 0) (lo' 0) (hi' 0) w'
    rw [e1, e2, e3]
    exact EqC0 f it ai ci hb0 h
  | 1, _ =>
    show EqP1 w0 f it ai ci H (v' 1) (lo' 1) (hi' 1) w'
    rw [e1, e2, e3]
    exact EqC1 w0 f it ai ci H hb0 h
  | 2, _ =>
    show EqP2 f' it' ai' ci' (v' 2) (lo' 2) (hi' 2) w'
    rw [e1, e2, e3]
    exact EqC2 f' it' ai' ci' hb0 h
  | 3, _ =>
    show EqP3 w0 f' it' ai' ci' H (v' 3) (lo' 3) (hi' 3) w'
    rw [e1, e2, e3]
    exact EqC3 w0 f' it' ai' ci' H hb0 h
  | 4, _ =>
    show EqP4  (v' 4) (lo' 4) (hi' 4) w'
    rw [e1, e2, e3]
    exact EqC4  hb0 h
  | 5, _ =>
    show EqP5  (v' 5) (lo' 5) (hi' 5) w'
    rw [e1, e2, e3]
    exact EqC5  hb0 h

theorem eq_bools (x y : Bool) : (x != y) = !(x == y) := rfl
/-- Same of the program and of the reference: one Bool for any two terms -/
theorem pSame_any (f : Fd) (it : TL) (f' : Fd) (it' : TL) (v v' : Value) (w : World) (h : RdS w 0 w.heap.size it v) (h' : RdS w 0 w.heap.size it' v') {b : Bool} (hb : (f.same f' && it.same it') = b) :
    Calls Try.prog 27 #[.agg #[.int .i64 f.k, .int .i64 f.i, .int .i64 f.g, .string f.nm, .string f.fn, .int .i64 f.ar, v, .string f.bs, .int .i64 f.n], .agg #[.int .i64 f'.k, .int .i64 f'.i, .int .i64 f'.g, .string f'.nm, .string f'.fn, .int .i64 f'.ar, v', .string f'.bs, .int .i64 f'.n]] w fun e w' => e = .returned (.bool b) ∧ Below w.heap.size w w' :=
  ((pgSame_all it.cnt).1 f it f' it' _ _ w 0 w.heap.size (Nat.le_refl _) ⟨_, rfl, h⟩ ⟨_, rfl, h'⟩ (Nat.le_refl _)).mono fun e w' h => ⟨h.1.trans (by rw [hb]), h.2⟩
theorem rSame_any (f : Fd) (it : TL) (f' : Fd) (it' : TL) (v v' : Value) (w : World) (h : RdS w 0 w.heap.size it v) (h' : RdS w 0 w.heap.size it' v') {b : Bool} (hb : (f.same f' && it.same it') = b) :
    Calls Try.prog 28 #[.agg #[.int .i64 f.k, .int .i64 f.i, .int .i64 f.g, .string f.nm, .string f.fn, .int .i64 f.ar, v, .string f.bs, .int .i64 f.n], .agg #[.int .i64 f'.k, .int .i64 f'.i, .int .i64 f'.g, .string f'.nm, .string f'.fn, .int .i64 f'.ar, v', .string f'.bs, .int .i64 f'.n]] w fun e w' => e = .returned (.bool b) ∧ Below w.heap.size w w' :=
  ((refSame_all it.cnt).1 f it f' it' _ _ w 0 w.heap.size (Nat.le_refl _) ⟨_, rfl, h⟩ ⟨_, rfl, h'⟩ (Nat.le_refl _)).mono fun e w' h => ⟨h.1.trans (by rw [hb]), h.2⟩
theorem same_turn (f f' : Fd) (it it' : TL) : (f'.same f && it'.same it) = (f.same f' && it.same it') := by
  rw [Bool.eq_iff_iff, Bool.and_eq_true, Bool.and_eq_true, Fd.same_iff, Fd.same_iff, TL.same_iff, TL.same_iff]
  exact ⟨fun h => ⟨h.1.symm, h.2.symm⟩, fun h => ⟨h.1.symm, h.2.symm⟩⟩
theorem same_self (f : Fd) (it : TL) : (f.same f && it.same it) = true := by rw [Fd.same_iff.2 rfl, TL.same_iff.2 rfl]; rfl
set_option maxRecDepth 100000 in
set_option maxHeartbeats 1000000 in
theorem equal_great (f : Fd) (it : TL) (ai : Option Addr) (ci : Nat) (f' : Fd) (it' : TL) (ai' : Option Addr) (ci' : Nat) (w : World) (hs : RdS w 0 w.heap.size it (.slice ai it.len ci)) (hs' : RdS w 0 w.heap.size it' (.slice ai' it'.len ci')) (hg : leftF (.cons f it (.cons f' it' .nil)) 30000 < 0) :
    Calls Try.prog 4 #[.agg #[.int .i64 f.k, .int .i64 f.i, .int .i64 f.g, .string f.nm, .string f.fn, .int .i64 f.ar, .slice ai it.len ci, .string f.bs, .int .i64 f.n], .agg #[.int .i64 f'.k, .int .i64 f'.i, .int .i64 f'.g, .string f'.nm, .string f'.fn, .int .i64 f'.ar, .slice ai' it'.len ci', .string f'.bs, .int .i64 f'.n]] w (Yes w) := by
  have HG := Lib.hid hg
  clear hg
  have HF0 := Lib.hid (show Bk w [.rd 0 w.heap.size it (.slice ai it.len ci), .rd 0 w.heap.size it' (.slice ai' it'.len ci'), .base w] from ⟨⟨hs, Nat.le_refl _⟩, ⟨hs', Nat.le_refl _⟩, Below.refl _ _, trivial⟩)
  clear hs hs'
  go_enter Try.func4, Try.ntmps4
  go_wp2_with fail
  refine (shown_any _).mono ?_
  rintro e w1 ⟨rfl, hb1⟩
  have HF := Lib.hid (((HF0.out.box #[.int .i64 f.k, .int .i64 f.i, .int .i64 f.g, .string f.nm, .string f.fn, .int .i64 f.ar, .slice ai it.len ci, .string f.bs, .int .i64 f.n]).boxN #[.int .i64 f'.k, .int .i64 f'.i, .int .i64 f'.g, .string f'.nm, .string f'.fn, .int .i64 f'.ar, .slice ai' it'.len ci', .string f'.bs, .int .i64 f'.n] (n := w.heap.size + 1) (by simp)).below hb1)
  have hz1 : w.heap.size + 2 ≤ w1.heap.size := by have := hb1.size; simp at this; omega
  clear hb1 HF0
  obtain ⟨c0, c1, c2, c3, c4, c5, c6, c7, c8, -⟩ := nine_cells (HF.out.blk 1 rfl)
  obtain ⟨d0, d1, d2, d3, d4, d5, d6, d7, d8, -⟩ := nine_cells (HF.out.blk 0 rfl)
  go_wp2_with fail
  have h1 := RdS.two0 (f := f) (f' := f') (HF.out.rd0 2 rfl) (HF.out.rd0 3 rfl)
  refine (Great_yes _ _ _ _ _ _ h1 (by simp) (by decide) (by decide) HG.out).mono ?_
  rintro e w2 ⟨rfl, hb2⟩
  have HF := Lib.hid ((HF.out.alloc _).below hb2)
  have hz2 : w1.heap.size + 1 ≤ w2.heap.size := by have := hb2.size; simp at this; omega
  clear hb2 h1 c0 c1 c2 c3 c4 c5 c6 c7 c8 d0 d1 d2 d3 d4 d5 d6 d7 d8
  go_wp2_with fail
  go_ret
  exact ⟨rfl, HF.out.base 4 rfl⟩
set_option maxRecDepth 100000 in
set_option maxHeartbeats 4000000 in
theorem equal_main (f : Fd) (it : TL) (ai : Option Addr) (ci : Nat) (f' : Fd) (it' : TL) (ai' : Option Addr) (ci' : Nat) (w : World) (hs : RdS w 0 w.heap.size it (.slice ai it.len ci)) (hs' : RdS w 0 w.heap.size it' (.slice ai' it'.len ci')) (hg : 0 ≤ leftF (.cons f it (.cons f' it' .nil)) 30000) (z : Bool) (hz : (f.same f' && it.same it') = z) :
    Calls Try.prog 4 #[.agg #[.int .i64 f.k, .int .i64 f.i, .int .i64 f.g, .string f.nm, .string f.fn, .int .i64 f.ar, .slice ai it.len ci, .string f.bs, .int .i64 f.n], .agg #[.int .i64 f'.k, .int .i64 f'.i, .int .i64 f'.g, .string f'.nm, .string f'.fn, .int .i64 f'.ar, .slice ai' it'.len ci', .string f'.bs, .int .i64 f'.n]] w (Yes w) := by
  obtain ⟨-, -, hc, -⟩ := tame_two (by decide) hg
  have HN := Lib.hid hc
  have HG := Lib.hid hg
  have HZ := Lib.hid hz
  clear hg hc hz
  have HF0 := Lib.hid (show Bk w [.rd 0 w.heap.size it (.slice ai it.len ci), .rd 0 w.heap.size it' (.slice ai' it'.len ci'), .base w] from ⟨⟨hs, Nat.le_refl _⟩, ⟨hs', Nat.le_refl _⟩, Below.refl _ _, trivial⟩)
  clear hs hs'
  go_enter Try.func4, Try.ntmps4
  go_wp2_with fail
  refine (shown_any _).mono ?_
  rintro e w1 ⟨rfl, hb1⟩
  have HF := Lib.hid (((HF0.out.box #[.int .i64 f.k, .int .i64 f.i, .int .i64 f.g, .string f.nm, .string f.fn, .int .i64 f.ar, .slice ai it.len ci, .string f.bs, .int .i64 f.n]).boxN #[.int .i64 f'.k, .int .i64 f'.i, .int .i64 f'.g, .string f'.nm, .string f'.fn, .int .i64 f'.ar, .slice ai' it'.len ci', .string f'.bs, .int .i64 f'.n] (n := w.heap.size + 1) (by simp)).below hb1)
  have hz1 : w.heap.size + 2 ≤ w1.heap.size := by have := hb1.size; simp at this; omega
  clear hb1 HF0
  obtain ⟨c0, c1, c2, c3, c4, c5, c6, c7, c8, -⟩ := nine_cells (HF.out.blk 1 rfl)
  obtain ⟨d0, d1, d2, d3, d4, d5, d6, d7, d8, -⟩ := nine_cells (HF.out.blk 0 rfl)
  go_wp2_with fail
  have h1 := RdS.two0 (f := f) (f' := f') (HF.out.rd0 2 rfl) (HF.out.rd0 3 rfl)
  refine (Great_no _ _ _ _ _ _ h1 (by simp) (by decide) (by decide) HG.out).mono ?_
  rintro e w2 ⟨rfl, hb2⟩
  have HF := Lib.hid ((HF.out.alloc _).below hb2)
  have hz2 : w1.heap.size + 1 ≤ w2.heap.size := by have := hb2.size; simp at this; omega
  clear hb2 h1 c0 c1 c2 c3 c4 c5 c6 c7 c8 d0 d1 d2 d3 d4 d5 d6 d7 d8
  go_upto_region 5 with (fail)
  -- [0 box b, 1 box a, 2 rd a, 3 rd b, 4 base]
  go_cut [5, 6] (fun s5 s6 wx => ∃ L1 L2 aj cj ak ck l1 h1 l3 h3, s5 = .pointer (some ⟨L1, 0, none⟩) ∧ s6 = .pointer (some ⟨L2, 0, none⟩) ∧ Hid (Bk wx [.blk L2 #[.int .i64 f'.k, .int .i64 f'.i, .int .i64 f'.g, .string f'.nm, .string f'.fn, .int .i64 f'.ar, .slice ak it'.len ck, .string f'.bs, .int .i64 f'.n], .blk L1 #[.int .i64 f.k, .int .i64 f.i, .int .i64 f.g, .string f.nm, .string f.fn, .int .i64 f.ar, .slice aj it.len cj, .string f.bs, .int .i64 f.n], .kp l3 h3 0 w.heap.size it' (.slice ak it'.len ck) (.slice ai' it'.len ci'), .kp l1 h1 0 w.heap.size it (.slice aj it.len cj) (.slice ai it.len ci), .blk (w.heap.size + 1) #[.int .i64 f'.k, .int .i64 f'.i, .int .i64 f'.g, .string f'.nm, .string f'.fn, .int .i64 f'.ar, .slice ai' it'.len ci', .string f'.bs, .int .i64 f'.n], .blk w.heap.size #[.int .i64 f.k, .int .i64 f.i, .int .i64 f.g, .string f.nm, .string f.fn, .int .i64 f.ar, .slice ai it.len ci, .string f.bs, .int .i64 f.n], .rd 0 w.heap.size it (.slice ai it.len ci), .rd 0 w.heap.size it' (.slice ai' it'.len ci'), .base w]) ∧ Hid (w.heap.size + 2 ≤ wx.heap.size))
  case first =>
    have HRa := Lib.hid fun W (hb : Below w2.heap.size w2 W) => (HF.out.rd 2 rfl).1.below hb (HF.out.rd 2 rfl).2
    have HRb := Lib.hid fun W (hb : Below w2.heap.size w2 W) => (HF.out.rd 3 rfl).1.below hb (HF.out.rd 3 rfl).2
    have HHw := Lib.hid (show w.heap.size ≤ w2.heap.size by omega)
    refine wp_region_words (by kernel_rfl) 6 w2.heap.size (fun k => Eqd.getD k none) (fun i => EqD.getD i []) (fun _ => none) (EqG w2 f it ai ci f' it' ai' ci' w.heap.size) (Nat.le_refl _) (by kernel_rfl) (by decide) (by kernel_rfl) (dist_of (by decide)) (dep_of (by kernel_rfl)) (fun _ _ _ h => by cases h) (EqG_keep w2 f it ai ci f' it' ai' ci' w.heap.size) ?_ ?_
    · intro i o hin ho f0 v lo hi W hk haft K' hK
      have HK := Lib.hid hK
      have HKn := Lib.hid hk
      have HAf := Lib.hid haft
      clear hK hk haft
      match i, hin, ho with
      | 0, _, ho =>
        obtain ⟨c0, c1, c2, c3, c4, c5, c6, c7, c8, -⟩ := nine_cells (keepB HKn.out.below (HF.out.blk 1 rfl))
        cases ho
        simp only [canon, Eqd, Act.put, List.getD_cons_succ, List.getD_cons_zero]
        go_simp
        have h := HK.out (.agg #[.int .i64 f.k, .int .i64 f.i, .int .i64 f.g, .string f.nm, .string f.fn, .int .i64 f.ar, .slice ai it.len ci, .string f.bs, .int .i64 f.n]) W (Moves.of_below (Below.refl _ _)) (fun _ h => by cases h) (updG_at v 0 _)
        simp [canon, Eqd, Act.put] at h
        exact h
      | 1, _, ho =>
        have f0 : f0 0 = true := by cases ho; exact HAf.out ⟨0, .data⟩ (by simp) rfl
        have h0 : v 0 = .agg #[.int .i64 f.k, .int .i64 f.i, .int .i64 f.g, .string f.nm, .string f.fn, .int .i64 f.ar, .slice ai it.len ci, .string f.bs, .int .i64 f.n] := HKn.out.word 0 (by decide) f0
        cases ho
        simp only [canon, Eqd, Act.put, List.getD_cons_succ, List.getD_cons_zero]
        go_simp
        refine ((lend_all it.cnt).1 f it _ W 0 w.heap.size (Nat.le_refl _) (by have := HN.out; omega) (HRa.out W HKn.out.below) (Nat.le_trans HHw.out HKn.out.below.size)).mono ?_
        rintro e wq ⟨aj, cj, rfl, hk, hb2⟩
        have hB2 := bstep HKn.out.below hb2
        have h := HK.out (.agg #[.int .i64 f.k, .int .i64 f.i, .int .i64 f.g, .string f.nm, .string f.fn, .int .i64 f.ar, .slice aj it.len cj, .string f.bs, .int .i64 f.n]) wq (Moves.of_below hb2) (fun _ h => by cases h) (by show EqP1 w2 f it ai ci w.heap.size _ _ _ _; rw [updG_at, updG_at, updG_at]; exact ⟨aj, cj, rfl, fun W' hB3 hB4 => hk.keep (fun b h1 h2 => hB3 b h1 h2) (fun b o _ h2 => cell_eq ((hB4.block b (Nat.lt_of_lt_of_le h2 HHw.out)).trans (hB2.block b (Nat.lt_of_lt_of_le h2 HHw.out)).symm) o)⟩)
        simp [canon, Eqd, Act.put, h0] at h
        exact h
      | 2, _, ho =>
        obtain ⟨c0, c1, c2, c3, c4, c5, c6, c7, c8, -⟩ := nine_cells (keepB HKn.out.below (HF.out.blk 0 rfl))
        cases ho
        simp only [canon, Eqd, Act.put, List.getD_cons_succ, List.getD_cons_zero]
        go_simp
        have h := HK.out (.agg #[.int .i64 f'.k, .int .i64 f'.i, .int .i64 f'.g, .string f'.nm, .string f'.fn, .int .i64 f'.ar, .slice ai' it'.len ci', .string f'.bs, .int .i64 f'.n]) W (Moves.of_below (Below.refl _ _)) (fun _ h => by cases h) (updG_at v 2 _)
        simp [canon, Eqd, Act.put] at h
        exact h
      | 3, _, ho =>
        have f2 : f0 2 = true := by cases ho; exact HAf.out ⟨2, .data⟩ (by simp) rfl
        have h2 : v 2 = .agg #[.int .i64 f'.k, .int .i64 f'.i, .int .i64 f'.g, .string f'.nm, .string f'.fn, .int .i64 f'.ar, .slice ai' it'.len ci', .string f'.bs, .int .i64 f'.n] := HKn.out.word 2 (by decide) f2
        cases ho
        simp only [canon, Eqd, Act.put, List.getD_cons_succ, List.getD_cons_zero]
        go_simp
        refine ((lend_all it'.cnt).1 f' it' _ W 0 w.heap.size (Nat.le_refl _) (by have := HN.out; omega) (HRb.out W HKn.out.below) (Nat.le_trans HHw.out HKn.out.below.size)).mono ?_
        rintro e wq ⟨aj, cj, rfl, hk, hb2⟩
        have hB2 := bstep HKn.out.below hb2
        have h := HK.out (.agg #[.int .i64 f'.k, .int .i64 f'.i, .int .i64 f'.g, .string f'.nm, .string f'.fn, .int .i64 f'.ar, .slice aj it'.len cj, .string f'.bs, .int .i64 f'.n]) wq (Moves.of_below hb2) (fun _ h => by cases h) (by show EqP3 w2 f' it' ai' ci' w.heap.size _ _ _ _; rw [updG_at, updG_at, updG_at]; exact ⟨aj, cj, rfl, fun W' hB3 hB4 => hk.keep (fun b h1 h2 => hB3 b h1 h2) (fun b o _ h2 => cell_eq ((hB4.block b (Nat.lt_of_lt_of_le h2 HHw.out)).trans (hB2.block b (Nat.lt_of_lt_of_le h2 HHw.out)).symm) o)⟩)
        simp [canon, Eqd, Act.put, h2] at h
        exact h
      | 4, _, ho =>
        cases ho
        simp only [canon, Eqd, Act.put, List.getD_cons_succ, List.getD_cons_zero]
        go_simp
        have h := HK.out (.pointer (some ⟨W.heap.size, 0, none⟩)) (W.alloc (.cells #[.int .i64 0, .int .i64 0, .int .i64 0, .string ⟨#[]⟩, .string ⟨#[]⟩, .int .i64 0, .slice none 0 0, .string ⟨#[]⟩, .int .i64 0] 24 (0, 0))) (Moves.of_below (below_alloc _ _)) (fun _ h => by cases h) (by show EqP4  _ _ _ _; rw [updG_at, updG_at, updG_at]; exact ⟨rfl, by simp, heap_alloc_new _ _⟩)
        simp [canon, Eqd, Act.put] at h
        exact h
      | 5, _, ho =>
        cases ho
        simp only [canon, Eqd, Act.put, List.getD_cons_succ, List.getD_cons_zero]
        go_simp
        have h := HK.out (.pointer (some ⟨W.heap.size, 0, none⟩)) (W.alloc (.cells #[.int .i64 0, .int .i64 0, .int .i64 0, .string ⟨#[]⟩, .string ⟨#[]⟩, .int .i64 0, .slice none 0 0, .string ⟨#[]⟩, .int .i64 0] 24 (0, 0))) (Moves.of_below (below_alloc _ _)) (fun _ h => by cases h) (by show EqP5  _ _ _ _; rw [updG_at, updG_at, updG_at]; exact ⟨rfl, by simp, heap_alloc_new _ _⟩)
        simp [canon, Eqd, Act.put] at h
        exact h
    · intro v lo hi W hk
      have w1 := hk.word 1 (by decide) rfl
      have w3 := hk.word 3 (by decide) rfl
      obtain ⟨aj, cj, h1, hk1⟩ := w1
      obtain ⟨ak, ck, h3, hk3⟩ := w3
      obtain ⟨h4, hl4, hc4⟩ := hk.word 4 (by decide) rfl
      obtain ⟨h5, hl5, hc5⟩ := hk.word 5 (by decide) rfl
      have hne : lo 4 ≠ lo 5 := by have := hk.apart 4 5 (by decide) (by decide) (by decide) rfl rfl; omega
      have r1 := hk.range 1 (by decide) rfl
      have r3 := hk.range 3 (by decide) rfl
      have r4 := hk.range 4 (by decide) rfl
      have r5 := hk.range 5 (by decide) rfl
      have a14 := hk.apart 1 4 (by decide) (by decide) (by decide) rfl rfl
      have a15 := hk.apart 1 5 (by decide) (by decide) (by decide) rfl rfl
      have a34 := hk.apart 3 4 (by decide) (by decide) (by decide) rfl rfl
      have a35 := hk.apart 3 5 (by decide) (by decide) (by decide) rfl rfl
      have HF1 := ((((HF.out.below hk.below).add (f := .kp (lo 1) (hi 1) 0 w.heap.size it (.slice aj it.len cj) (.slice ai it.len ci)) ⟨hk1 _ (fun _ _ _ => rfl) hk.below, r1.2.1, r1.2.2, by omega⟩).add (f := .kp (lo 3) (hi 3) 0 w.heap.size it' (.slice ak it'.len ck) (.slice ai' it'.len ci')) ⟨hk3 _ (fun _ _ _ => rfl) hk.below, r3.2.1, r3.2.2, by omega⟩).add (f := .blk (lo 4) #[.int .i64 0, .int .i64 0, .int .i64 0, .string ⟨#[]⟩, .string ⟨#[]⟩, .int .i64 0, .slice none 0 0, .string ⟨#[]⟩, .int .i64 0]) hc4).add (f := .blk (lo 5) #[.int .i64 0, .int .i64 0, .int .i64 0, .string ⟨#[]⟩, .string ⟨#[]⟩, .int .i64 0, .slice none 0 0, .string ⟨#[]⟩, .int .i64 0]) hc5
      -- [0 blk l5, 1 blk l4, 2 kp3, 3 kp1, 4 box b, 5 box a, 6 rd a, 7 rd b, 8 base]
      have HF2 := HF1.put 1 rfl (by refine ⟨?_, ?_, ?_, ?_, ?_, ?_, ?_, ?_, trivial⟩ <;> (simp only [Fct.apart]; first | omega | (intro b hb; omega))) (.int .i64 f.k) (.int .i64 f.i) (.int .i64 f.g) (.string f.nm) (.string f.fn) (.int .i64 f.ar) (.slice aj it.len cj) (.string f.bs) (.int .i64 f.n)
      -- [0 blk l4, 1 blk l5, ..]
      have HF3 := Lib.hid (HF2.put 1 rfl (by refine ⟨?_, ?_, ?_, ?_, ?_, ?_, ?_, ?_, trivial⟩ <;> (simp only [Fct.apart]; first | omega | (intro b hb; omega))) (.int .i64 f'.k) (.int .i64 f'.i) (.int .i64 f'.g) (.string f'.nm) (.string f'.fn) (.int .i64 f'.ar) (.slice ak it'.len ck) (.string f'.bs) (.int .i64 f'.n))
      obtain ⟨c0, c1, c2, c3, c4, c5, c6, c7, c8, fr⟩ := nine_cells hc4
      obtain ⟨d0, d1, d2, d3, d4, d5, d6, d7, d8, fr'⟩ := nine_cells hc5
      have hbz := hk.below.size
      have HZ5 := Lib.hid (show w.heap.size + 2 ≤ W.heap.size by omega)
      have HH := Lib.hid h1
      have HH3 := Lib.hid h3
      have HH4 := Lib.hid h4
      have HH5 := Lib.hid h5
      clear hk HF1 HF2 hk1 hk3 a14 a15 a34 a35 r1 r3 r4 r5 hc4 hc5 hl4 hl5 h1 h3 h4 h5 HF HRa HRb HHw HN HG HZ hbz
      simp only [canon, Eqd, Act.put, List.getD_cons_succ, List.getD_cons_zero, List.drop_succ_cons, List.drop_zero]
      rw [HH.out, HH3.out, HH4.out, HH5.out]
      go_wp2_with fail
      go_meet
      exact ⟨lo 4, lo 5, aj, cj, ak, ck, lo 1, hi 1, lo 3, hi 3, rfl, rfl, HF3, Lib.hid (by simp only [size_setCell]; exact HZ5.out)⟩
  case rest =>
    obtain ⟨L1, L2, aj, cj, ak, ck, l1, h1, l3, h3, rfl, rfl, HF, hz5⟩ := hcut
    have hz5 := hz5.out
    -- [0 box y, 1 box x, 2 kp y, 3 kp x, 4 box b, 5 box a, 6 rd a, 7 rd b, 8 base]
    go_upto_region 6 with (fail)
    obtain ⟨c0, c1, c2, c3, c4, c5, c6, c7, c8, -⟩ := nine_cells (HF.out.blk 1 rfl)
    obtain ⟨d0, d1, d2, d3, d4, d5, d6, d7, d8, -⟩ := nine_cells (HF.out.blk 0 rfl)
    obtain ⟨p0, p1, p2, p3, p4, p5, p6, p7, p8, -⟩ := nine_cells (HF.out.blk 5 rfl)
    obtain ⟨q0, q1, q2, q3, q4, q5, q6, q7, q8, -⟩ := nine_cells (HF.out.blk 4 rfl)
    have HS1 := Lib.hid (fun W (hb : Below wc.heap.size wc W) => pSame_any f it f' it' _ _ W ((HF.out.below hb).kp0 3 rfl) ((HF.out.below hb).kp0 2 rfl) HZ.out)
    have HS2 := Lib.hid (fun W (hb : Below wc.heap.size wc W) => pSame_any f' it' f it _ _ W ((HF.out.below hb).kp0 2 rfl) ((HF.out.below hb).kp0 3 rfl) ((same_turn f f' it it').trans HZ.out))
    have HS3 := Lib.hid (fun W (hb : Below wc.heap.size wc W) => pSame_any f it f it _ _ W ((HF.out.below hb).kp0 3 rfl) ((HF.out.below hb).kp0 3 rfl) (same_self f it))
    have HS4 := Lib.hid (fun W (hb : Below wc.heap.size wc W) => rSame_any f it f' it' _ _ W ((HF.out.below hb).rd0 6 rfl) ((HF.out.below hb).rd0 7 rfl) HZ.out)
    have HBc := Lib.hid (Below.refl wc.heap.size wc)
    go_region_held3 (fun w' => w'.cell? ⟨L1, 0, none⟩ = some (.int .i64 f.k) ∧ w'.cell? ⟨L1, 1, none⟩ = some (.int .i64 f.i) ∧ w'.cell? ⟨L1, 2, none⟩ = some (.int .i64 f.g) ∧ w'.cell? ⟨L1, 3, none⟩ = some (.string f.nm) ∧ w'.cell? ⟨L1, 4, none⟩ = some (.string f.fn) ∧ w'.cell? ⟨L1, 5, none⟩ = some (.int .i64 f.ar) ∧ w'.cell? ⟨L1, 6, none⟩ = some (.slice aj it.len cj) ∧ w'.cell? ⟨L1, 7, none⟩ = some (.string f.bs) ∧ w'.cell? ⟨L1, 8, none⟩ = some (.int .i64 f.n) ∧ w'.cell? ⟨L2, 0, none⟩ = some (.int .i64 f'.k) ∧ w'.cell? ⟨L2, 1, none⟩ = some (.int .i64 f'.i) ∧ w'.cell? ⟨L2, 2, none⟩ = some (.int .i64 f'.g) ∧ w'.cell? ⟨L2, 3, none⟩ = some (.string f'.nm) ∧ w'.cell? ⟨L2, 4, none⟩ = some (.string f'.fn) ∧ w'.cell? ⟨L2, 5, none⟩ = some (.int .i64 f'.ar) ∧ w'.cell? ⟨L2, 6, none⟩ = some (.slice ak it'.len ck) ∧ w'.cell? ⟨L2, 7, none⟩ = some (.string f'.bs) ∧ w'.cell? ⟨L2, 8, none⟩ = some (.int .i64 f'.n) ∧ w'.cell? ⟨w.heap.size, 0, none⟩ = some (.int .i64 f.k) ∧ w'.cell? ⟨w.heap.size, 1, none⟩ = some (.int .i64 f.i) ∧ w'.cell? ⟨w.heap.size, 2, none⟩ = some (.int .i64 f.g) ∧ w'.cell? ⟨w.heap.size, 3, none⟩ = some (.string f.nm) ∧ w'.cell? ⟨w.heap.size, 4, none⟩ = some (.string f.fn) ∧ w'.cell? ⟨w.heap.size, 5, none⟩ = some (.int .i64 f.ar) ∧ w'.cell? ⟨w.heap.size, 6, none⟩ = some (.slice ai it.len ci) ∧ w'.cell? ⟨w.heap.size, 7, none⟩ = some (.string f.bs) ∧ w'.cell? ⟨w.heap.size, 8, none⟩ = some (.int .i64 f.n) ∧ w'.cell? ⟨w.heap.size + 1, 0, none⟩ = some (.int .i64 f'.k) ∧ w'.cell? ⟨w.heap.size + 1, 1, none⟩ = some (.int .i64 f'.i) ∧ w'.cell? ⟨w.heap.size + 1, 2, none⟩ = some (.int .i64 f'.g) ∧ w'.cell? ⟨w.heap.size + 1, 3, none⟩ = some (.string f'.nm) ∧ w'.cell? ⟨w.heap.size + 1, 4, none⟩ = some (.string f'.fn) ∧ w'.cell? ⟨w.heap.size + 1, 5, none⟩ = some (.int .i64 f'.ar) ∧ w'.cell? ⟨w.heap.size + 1, 6, none⟩ = some (.slice ai' it'.len ci') ∧ w'.cell? ⟨w.heap.size + 1, 7, none⟩ = some (.string f'.bs) ∧ w'.cell? ⟨w.heap.size + 1, 8, none⟩ = some (.int .i64 f'.n))
      (first
        | (exact ⟨c0, c1, c2, c3, c4, c5, c6, c7, c8, d0, d1, d2, d3, d4, d5, d6, d7, d8, p0, p1, p2, p3, p4, p5, p6, p7, p8, q0, q1, q2, q3, q4, q5, q6, q7, q8⟩)
        | (go_split_ands; refine ⟨?_, ?_, ?_, ?_, ?_, ?_, ?_, ?_, ?_, ?_, ?_, ?_, ?_, ?_, ?_, ?_, ?_, ?_, ?_, ?_, ?_, ?_, ?_, ?_, ?_, ?_, ?_, ?_, ?_, ?_, ?_, ?_, ?_, ?_, ?_, ?_⟩ <;> exact below_keep hb1 (by assumption)))
      (first
        | (go_at_call 27; ((with_reducible refine (HS1.out _ (by first | exact HBc.out | exact HBc.out.drew)).mono ?_); rintro e w1 ⟨rfl, hb1⟩); have HBc := Lib.hid (show Below wc.heap.size wc w1 by first | exact bstep HBc.out hb1 | exact bstep HBc.out.drew hb1))
        | (go_at_call 27; ((with_reducible refine (HS2.out _ (by first | exact HBc.out | exact HBc.out.drew)).mono ?_); rintro e w1 ⟨rfl, hb1⟩); have HBc := Lib.hid (show Below wc.heap.size wc w1 by first | exact bstep HBc.out hb1 | exact bstep HBc.out.drew hb1))
        | (go_at_call 27; ((with_reducible refine (HS3.out _ (by first | exact HBc.out | exact HBc.out.drew)).mono ?_); rintro e w1 ⟨rfl, hb1⟩); have HBc := Lib.hid (show Below wc.heap.size wc w1 by first | exact bstep HBc.out hb1 | exact bstep HBc.out.drew hb1))
        | (go_at_call 28; ((with_reducible refine (HS4.out _ (by first | exact HBc.out | exact HBc.out.drew)).mono ?_); rintro e w1 ⟨rfl, hb1⟩); have HBc := Lib.hid (show Below wc.heap.size wc w1 by first | exact bstep HBc.out hb1 | exact bstep HBc.out.drew hb1)))
    have HF := Lib.hid (HF.out.below HBc.out)

    clear c0 c1 c2 c3 c4 c5 c6 c7 c8 d0 d1 d2 d3 d4 d5 d6 d7 d8 p0 p1 p2 p3 p4 p5 p6 p7 p8 q0 q1 q2 q3 q4 q5 q6 q7 q8 HS1 HS2 HS3 HS4

    -- [0 box y, 1 box x, 2 kp y, 3 kp x, 4 box b, 5 box a, 6 rd a, 7 rd b, 8 base]
    have hz6 : w.heap.size + 2 ≤ w1.heap.size := by have := (HF.out.base 8 rfl).size; have := lt_of_block (HF.out.blk 4 rfl); omega
    have hq1 := (HF.out.kp 3 rfl).2.2.1
    have hq3 := (HF.out.kp 2 rfl).2.2.1
    have hl1 := lt_of_block (HF.out.blk 1 rfl)
    have hl2 := lt_of_block (HF.out.blk 0 rfl)
    obtain ⟨c0, c1, c2, c3, c4, c5, c6, c7, c8, -⟩ := nine_cells (HF.out.blk 1 rfl)
    go_wp2_with fail
    refine ((copy_all it.cnt).1 f it _ _ 0 w1.heap.size (Nat.le_refl _) (by have := HN.out; omega) ⟨_, rfl, HF.out.kp0 3 rfl⟩ (Nat.le_refl _)).mono ?_
    rintro e w6 ⟨am, cm, rfl, hn6, hb6⟩
    have HF := Lib.hid ((HF.out.below hb6).add (f := .nw w1.heap.size w6.heap.size it _) ⟨hn6, hb6.size, Nat.le_refl _⟩)
    have hz7 : w1.heap.size ≤ w6.heap.size := hb6.size
    clear hb6 hn6 c0 c1 c2 c3 c4 c5 c6 c7 c8
    have HF := Lib.hid (HF.out.box #[.int .i64 f.k, .int .i64 f.i, .int .i64 f.g, .string f.nm, .string f.fn, .int .i64 f.ar, .slice am it.len cm, .string f.bs, .int .i64 f.n])
    -- [0 box c, 1 nw c, 2 box y, 3 box x, 4 kp y, 5 kp x, 6 box b, 7 box a, 8 rd a, 9 rd b, 10 base]
    obtain ⟨c0, c1, c2, c3, c4, c5, c6, c7, c8, -⟩ := nine_cells (HF.out.blk 7 rfl)
    go_wp2_with fail
    refine (kitSame_eq f it _ _ _ _ _ (HF.out.nw0 1 rfl) (HF.out.rd0 8 rfl)).mono ?_
    rintro e w7 ⟨rfl, hb7⟩
    have HF := Lib.hid (HF.out.below hb7)
    have hz8 : w6.heap.size + 1 ≤ w7.heap.size := by have := hb7.size; simp at this; omega
    clear hb7 c0 c1 c2 c3 c4 c5 c6 c7 c8
    obtain ⟨c0, c1, c2, c3, c4, c5, c6, c7, c8, -⟩ := nine_cells (HF.out.blk 0 rfl)
    go_wp2_with fail
    refine (Spoil_any f it.cnt _ _ _ _ _ _ ((HF.out.nw 1 rfl).1.sp _ _ _ (Nat.le_refl _)) (HF.out.nw 1 rfl).2.2).mono ?_
    rintro e w8 ⟨rfl, hs8⟩
    have HF := Lib.hid (Bk.move (Outs.of_spw hs8) (HF.out.del 1) (by refine ⟨?_, ?_, ?_, ?_, ?_, ?_, ?_, ?_, ?_, ?_, trivial⟩ <;> (simp only [Fct.apart]; first | omega | (intro b hb; omega))))
    clear hs8 c0 c1 c2 c3 c4 c5 c6 c7 c8
    -- [0 box c, 1 box y, 2 box x, 3 kp y, 4 kp x, 5 box b, 6 box a, 7 rd a, 8 rd b, 9 base]
    obtain ⟨c0, c1, c2, c3, c4, c5, c6, c7, c8, -⟩ := nine_cells (HF.out.blk 2 rfl)
    obtain ⟨d0, d1, d2, d3, d4, d5, d6, d7, d8, -⟩ := nine_cells (HF.out.blk 6 rfl)
    go_wp2_with fail
    refine ((kept_all it.cnt).1 f it _ _ _ _ _ _ _ (Nat.le_refl _) (HF.out.kp 4 rfl).1 (HF.out.kp 4 rfl).2.2.1 (HF.out.kp 4 rfl).2.2.2).mono ?_
    rintro e w9 ⟨rfl, hb9⟩
    have HF := Lib.hid (HF.out.below hb9)
    clear hb9 c0 c1 c2 c3 c4 c5 c6 c7 c8 d0 d1 d2 d3 d4 d5 d6 d7 d8
    obtain ⟨c0, c1, c2, c3, c4, c5, c6, c7, c8, -⟩ := nine_cells (HF.out.blk 1 rfl)
    obtain ⟨d0, d1, d2, d3, d4, d5, d6, d7, d8, -⟩ := nine_cells (HF.out.blk 5 rfl)
    go_wp2_with fail
    refine ((kept_all it'.cnt).1 f' it' _ _ _ _ _ _ _ (Nat.le_refl _) (HF.out.kp 3 rfl).1 (HF.out.kp 3 rfl).2.2.1 (HF.out.kp 3 rfl).2.2.2).mono ?_
    rintro e w10 ⟨rfl, hb10⟩
    have HF := Lib.hid (HF.out.below hb10)
    clear hb10
    go_wp2_with fail
    go_ret
    exact ⟨rfl, HF.out.base 9 rfl⟩
end Go.Proofs.Ytgbaelkoblnlhaa
