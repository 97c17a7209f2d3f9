/-
  Walks: the law TermsLists, region 5: a list of two rows and a tail.
-/
import Derived.Test.YtgbaelkoblnlhaaApp
import Derived.Test.YtgbaelkoblnlhaaListLaw
import Derived.Test.YtgbaelkoblnlhaaShown2
import Derived.Deep.RegionHeld3
import Derived.Deep.DeepCutAuto
namespace Go.Proofs.Ytgbaelkoblnlhaa
open Go.RowKit
/-- the words of region 5 of TermsLists -/
def LsG (w0 : World) (la lb : TL) (xa : List Value) (aa ab : Option Addr) (ca cb : Nat) (f : Fd) (it : TL) (ai : Option Addr) (ci : Nat) (C : Int) (F : Fd) (L : TL) (i : Nat) (fl : Nat → Bool) (v : Nat → Value) (lo hi : Nat → Nat) (w : World) : Prop :=
  match i with
  | 0 => v 0 = .slice (some ⟨lo 0, 0, none⟩) 0 0 ∧ lo 0 < hi 0 ∧ w.heap[lo 0]? = some (.cells #[] 24 (0, 0))
  | 1 => v 1 = .slice aa la.len ca
  | 2 => (la.len = 0 ∧ ∃ g, v 2 = .slice (some ⟨g, 0, none⟩) 0 0 ∧ lo 0 ≤ g ∧ g < hi 0 ∧ w.ownsRow 0 24 9 (.slice (some ⟨g, 0, none⟩) 0 0) 0 []) ∨
      (la.len ≠ 0 ∧ ∃ g cap, v 2 = .slice (some ⟨g, 0, none⟩) la.len cap ∧ lo 2 ≤ g ∧ g < hi 2 ∧ (fl 4 = false → w.ownsRow 0 24 9 (.slice (some ⟨g, 0, none⟩) la.len cap) la.len xa))
  | 3 => v 3 = .slice ab lb.len cb
  | 4 => ∃ aq cq, v 4 = .slice aq (la.len + lb.len) cq ∧ ∀ W', (∀ b, (lo 2 ≤ b ∧ b < hi 2) ∨ (lo 4 ≤ b ∧ b < hi 4) → W'.heap[b]? = w.heap[b]?) → Below w0.heap.size w0 W' → RdS W' 0 W'.heap.size (la.app lb) (.slice aq (la.len + lb.len) cq)
  | 5 => v 5 = .agg #[.int .i64 f.k, .int .i64 f.i, .int .i64 f.g, .string f.nm, .string f.fn, .int .i64 f.ar, .slice ai it.len ci, .string f.bs, .int .i64 f.n]
  | 6 => ∃ aj cj, v 6 = .tuple #[.agg #[.int .i64 F.k, .int .i64 F.i, .int .i64 F.g, .string F.nm, .string F.fn, .int .i64 F.ar, .slice aj L.len cj, .string F.bs, .int .i64 F.n], .int .i64 C] ∧ NwS w (lo 6) (hi 6) L (.slice aj L.len cj)
  | 7 => v 7 = v 6 ∧ ∃ aj cj, v 7 = .tuple #[.agg #[.int .i64 F.k, .int .i64 F.i, .int .i64 F.g, .string F.nm, .string F.fn, .int .i64 F.ar, .slice aj L.len cj, .string F.bs, .int .i64 F.n], .int .i64 C]
  | 8 => ∃ y, v 7 = .tuple #[v 8, y]
  | 9 => ∃ x, v 7 = .tuple #[x, v 9]
  | 10 => v 10 = .pointer (some ⟨lo 10, 0, none⟩) ∧ lo 10 < hi 10 ∧ ∃ c0 c1 c2 c3 c4 c5 c6 c7 c8, w.heap[lo 10]? = some (.cells #[c0, c1, c2, c3, c4, c5, c6, c7, c8] 24 (0, 0))
  | 11 => lo 10 < hi 10 ∧ ∃ aj cj, v 6 = .tuple #[.agg #[.int .i64 F.k, .int .i64 F.i, .int .i64 F.g, .string F.nm, .string F.fn, .int .i64 F.ar, .slice aj L.len cj, .string F.bs, .int .i64 F.n], .int .i64 C] ∧ w.heap[lo 10]? = some (.cells #[.int .i64 F.k, .int .i64 F.i, .int .i64 F.g, .string F.nm, .string F.fn, .int .i64 F.ar, .slice aj L.len cj, .string F.bs, .int .i64 F.n] 24 (0, 0))
  | _ => True
def LsD : List (List Nat) := [[], [], [0, 1], [], [2, 3], [], [4, 5], [6], [7], [7], [], [10, 8, 6]]
def LsT (i : Nat) : Option Nat := if i = 4 then some 2 else if i = 11 then some 10 else none
theorem ls_none {i : Nat} {R : Nat → Prop} (h : i ≠ 4 ∧ i ≠ 11) : ∀ j, LsT i = some j → R j := fun j hj => by
  unfold LsT at hj
  rw [if_neg h.1, if_neg h.2] at hj
  cases hj
def Lsd : List (Option Nat) := [some 34, some 35, some 36, some 37, some 38, some 39, some 40, some 33, some 41, some 42, some 7, none]
theorem own_at {w w' : World} {g n cap : Nat} {xs : List Value} (h : w.ownsRow 0 24 9 (.slice (some ⟨g, 0, none⟩) n cap) n xs) (hg : w'.heap[g]? = w.heap[g]?) : w'.ownsRow 0 24 9 (.slice (some ⟨g, 0, none⟩) n cap) n xs := by
  obtain ⟨h1, h2 | ⟨g', cap', cur, e1, hb, hh, r⟩⟩ := h
  · exact ⟨h1, .inl h2⟩
  · have e2 := e1
    injection e2 with e2 _ _
    injection e2 with e2
    injection e2 with e2 _ _
    subst e2
    exact ⟨h1, .inr ⟨g, cap', cur, e1, hb, hg.trans hh, r⟩⟩
theorem LsG_keep (w0 : World) (la lb : TL) (xa : List Value) (aa ab : Option Addr) (ca cb : Nat) (f : Fd) (it : TL) (ai : Option Addr) (ci : Nat) (C : Int) (F : Fd) (L : TL) (i : Nat) (fl : Nat → Bool) (v : Nat → Value) (lo hi : Nat → Nat) (w : World) (fl' : Nat → Bool) (v' : Nat → Value) (lo' hi' : Nat → Nat) (w' : World) (hin : i < 12) (hfl : ∀ k, fl k = true → fl' k = true) (hsame : ∀ k, k = i ∨ k ∈ LsD.getD i [] → v' k = v k ∧ lo' k = lo k ∧ hi' k = hi k) (hb : ∀ k, k = i ∨ k ∈ LsD.getD i [] → ∀ b, lo k ≤ b → b < hi k → w'.heap[b]? = w.heap[b]?) (h : LsG w0 la lb xa aa ab ca cb f it ai ci C F L i fl v lo hi w) : LsG w0 la lb xa aa ab ca cb f it ai ci C F L i fl' v' lo' hi' w' := by
  obtain ⟨e1, e2, e3⟩ := hsame i (.inl rfl)
  have hb0 := hb i (.inl rfl)
  match i, hin with
  | 0, _ =>
    show v' 0 = .slice (some ⟨lo' 0, 0, none⟩) 0 0 ∧ lo' 0 < hi' 0 ∧ w'.heap[lo' 0]? = _
    rw [e1, e2, e3]
    exact ⟨h.1, h.2.1, (hb0 _ (Nat.le_refl _) h.2.1).trans h.2.2⟩
  | 1, _ => exact e1.trans h
  | 2, _ =>
    obtain ⟨_, e4, e5⟩ := hsame 0 (.inr (by decide))
    rcases h with ⟨h1, g, h2, h3, h4, h5⟩ | ⟨h1, g, cap, h2, h3, h4, h5⟩
    · exact .inl ⟨h1, g, e1.trans h2, by rw [e4]; exact h3, by rw [e5]; exact h4, own_at h5 (hb 0 (.inr (by decide)) g h3 h4)⟩
    · refine .inr ⟨h1, g, cap, e1.trans h2, by rw [e2]; exact h3, by rw [e3]; exact h4, fun h6 => own_at (h5 ?_) (hb0 g h3 h4)⟩
      cases h7 : fl 4
      · rfl
      · rw [hfl 4 h7] at h6; cases h6
  | 3, _ => exact e1.trans h
  | 4, _ =>
    obtain ⟨_, e4, e5⟩ := hsame 2 (.inr (by decide))
    obtain ⟨aq, cq, h1, h2⟩ := h
    refine ⟨aq, cq, e1.trans h1, fun W' hW hB => h2 W' (fun b hbb => ?_) hB⟩
    rw [e2, e3, e4, e5] at hW
    refine (hW b hbb).trans ?_
    rcases hbb with hbb | hbb
    · exact hb 2 (.inr (by decide)) b hbb.1 hbb.2
    · exact hb0 b hbb.1 hbb.2
  | 5, _ => exact e1.trans h
  | 6, _ =>
    obtain ⟨aj, cj, h1, h2⟩ := h
    refine ⟨aj, cj, e1.trans h1, ?_⟩
    rw [e2, e3]
    exact h2.keep hb0
  | 7, _ =>
    obtain ⟨e4, _, _⟩ := hsame 6 (.inr (by decide))
    show v' 7 = v' 6 ∧ ∃ aj cj, v' 7 = _
    rw [e1, e4]; exact h
  | 8, _ =>
    obtain ⟨e4, _, _⟩ := hsame 7 (.inr (by decide))
    obtain ⟨y, h⟩ := h
    exact ⟨y, by rw [e4, e1]; exact h⟩
  | 9, _ =>
    obtain ⟨e4, _, _⟩ := hsame 7 (.inr (by decide))
    obtain ⟨y, h⟩ := h
    exact ⟨y, by rw [e4, e1]; exact h⟩
  | 10, _ =>
    obtain ⟨h1, h2, c0, c1, c2, c3, c4, c5, c6, c7, c8, h3⟩ := h
    show v' 10 = .pointer (some ⟨lo' 10, 0, none⟩) ∧ lo' 10 < hi' 10 ∧ ∃ c0 c1 c2 c3 c4 c5 c6 c7 c8, w'.heap[lo' 10]? = _
    rw [e1, e2, e3]
    exact ⟨h1, h2, c0, c1, c2, c3, c4, c5, c6, c7, c8, (hb0 _ (Nat.le_refl _) h2).trans h3⟩
  | 11, _ =>
    obtain ⟨h2, aj, cj, h1, h3⟩ := h
    obtain ⟨_, e4, e5⟩ := hsame 10 (.inr (by decide))
    obtain ⟨e6, _, _⟩ := hsame 6 (.inr (by decide))
    show lo' 10 < hi' 10 ∧ ∃ aj cj, v' 6 = _ ∧ w'.heap[lo' 10]? = _
    rw [e4, e5, e6]
    exact ⟨h2, aj, cj, h1, (hb 10 (.inr (by decide)) _ (Nat.le_refl _) h2).trans h3⟩
theorem ls_store (w0 : World) (la lb : TL) (xa : List Value) (aa ab : Option Addr) (ca cb : Nat) (f : Fd) (it : TL) (ai : Option Addr) (ci : Nat) (C : Int) (F : Fd) (L : TL) {fl : Nat → Bool} {v : Nat → Value} {lo hi : Nat → Nat} {W : World} {aj : Option Addr} {cj : Nat} {e0 e1 e2 e3 e4 e5 e6 e7 e8 : Value} (h10 : v 10 = .pointer (some ⟨lo 10, 0, none⟩)) (hl : lo 10 < hi 10) (hc : W.heap[lo 10]? = some (.cells #[e0, e1, e2, e3, e4, e5, e6, e7, e8] 24 (0, 0))) (h6 : v 6 = .tuple #[.agg #[.int .i64 F.k, .int .i64 F.i, .int .i64 F.g, .string F.nm, .string F.fn, .int .i64 F.ar, .slice aj L.len cj, .string F.bs, .int .i64 F.n], .int .i64 C]) :
    ∃ W', W' = (((((((((W.setCell ⟨lo 10, 0, none⟩ (.int .i64 F.k)).setCell ⟨lo 10, 1, none⟩ (.int .i64 F.i)).setCell ⟨lo 10, 2, none⟩ (.int .i64 F.g)).setCell ⟨lo 10, 3, none⟩ (.string F.nm)).setCell ⟨lo 10, 4, none⟩ (.string F.fn)).setCell ⟨lo 10, 5, none⟩ (.int .i64 F.ar)).setCell ⟨lo 10, 6, none⟩ (.slice aj L.len cj)).setCell ⟨lo 10, 7, none⟩ (.string F.bs)).setCell ⟨lo 10, 8, none⟩ (.int .i64 F.n)) ∧ Moves lo hi (LsT 11) W W' ∧ (∀ j, LsT 11 = some j → ∀ k, k < 12 → (k = j ∨ j ∈ LsD.getD k []) → LsG w0 la lb xa aa ab ca cb f it ai ci C F L k fl v lo hi W') ∧ ∀ x y z, LsG w0 la lb xa aa ab ca cb f it ai ci C F L 11 fl (updG v 11 x) (updG lo 11 y) (updG hi 11 z) W' := by
  obtain ⟨W', hW'⟩ : ∃ W', W' = (((((((((W.setCell ⟨lo 10, 0, none⟩ (.int .i64 F.k)).setCell ⟨lo 10, 1, none⟩ (.int .i64 F.i)).setCell ⟨lo 10, 2, none⟩ (.int .i64 F.g)).setCell ⟨lo 10, 3, none⟩ (.string F.nm)).setCell ⟨lo 10, 4, none⟩ (.string F.fn)).setCell ⟨lo 10, 5, none⟩ (.int .i64 F.ar)).setCell ⟨lo 10, 6, none⟩ (.slice aj L.len cj)).setCell ⟨lo 10, 7, none⟩ (.string F.bs)).setCell ⟨lo 10, 8, none⟩ (.int .i64 F.n)) := ⟨_, rfl⟩
  have ho := outs_nine W (lo 10) (.int .i64 F.k) (.int .i64 F.i) (.int .i64 F.g) (.string F.nm) (.string F.fn) (.int .i64 F.ar) (.slice aj L.len cj) (.string F.bs) (.int .i64 F.n)
  have hn := nine_blk hc (.int .i64 F.k) (.int .i64 F.i) (.int .i64 F.g) (.string F.nm) (.string F.fn) (.int .i64 F.ar) (.slice aj L.len cj) (.string F.bs) (.int .i64 F.n)
  rw [← hW'] at ho hn
  refine ⟨W', hW', ⟨ho.os, ho.tape, ho.output, ho.size, fun k hk hj => ho.block k hk ?_⟩, ?_, ?_⟩
  · have := hj 10 rfl
    omega
  · intro j hj k hk12 hkj
    have hj10 : j = 10 := by unfold LsT at hj; rw [if_neg (by decide), if_pos rfl] at hj; injection hj with hj; exact hj.symm
    subst hj10
    have hk78 : k = 10 ∨ k = 11 := by
      rcases hkj with h | h
      · exact .inl h
      · match k, hk12, h with
        | 11, _, _ => exact .inr rfl
        | 0, _, h | 1, _, h | 2, _, h | 3, _, h | 4, _, h | 5, _, h | 6, _, h | 7, _, h | 8, _, h | 9, _, h | 10, _, h => revert h; decide
    rcases hk78 with rfl | rfl
    · exact ⟨h10, hl, _, _, _, _, _, _, _, _, _, hn⟩
    · exact ⟨hl, aj, cj, h6, hn⟩
  · intro x y z
    refine ⟨?_, aj, cj, ?_, ?_⟩
    · rw [updG_ne _ _ (by decide), updG_ne _ _ (by decide)]; exact hl
    · rw [updG_ne _ _ (by decide)]; exact h6
    · rw [updG_ne _ _ (by decide)]; exact hn
set_option maxRecDepth 100000 in
set_option maxHeartbeats 1000000 in
theorem lists_great1 (la : TL) (aa : Option Addr) (ca : Nat) (lb : TL) (ab : Option Addr) (cb : Nat) (f : Fd) (it : TL) (ai : Option Addr) (ci : Nat) (w : World) (hla : RdS w 0 w.heap.size la (.slice aa la.len ca)) (hlb : RdS w 0 w.heap.size lb (.slice ab lb.len cb)) (hs : RdS w 0 w.heap.size it (.slice ai it.len ci)) (hg1 : leftF la 20000 < 0) :
    Calls Try.prog 8 #[.slice aa la.len ca, .slice ab lb.len cb, .agg #[.int .i64 f.k, .int .i64 f.i, .int .i64 f.g, .string f.nm, .string f.fn, .int .i64 f.ar, .slice ai it.len ci, .string f.bs, .int .i64 f.n]] w (Yes w) := by
  have HG1 := Lib.hid hg1
  clear hg1
  have HF0 := Lib.hid (show Bk w [.rx (fun b => b < w.heap.size) la (.slice aa la.len ca), .rx (fun b => b < w.heap.size) lb (.slice ab lb.len cb), .rx (fun b => b < w.heap.size) it (.slice ai it.len ci), .base w] from ⟨⟨hla.x fun b _ h => h, fun b h => h⟩, ⟨hlb.x fun b _ h => h, fun b h => h⟩, ⟨hs.x fun b _ h => h, fun b h => h⟩, Below.refl _ _, trivial⟩)
  clear hla hlb hs
  go_enter Try.func8, Try.ntmps8
  go_wp2_with fail
  refine (shown_any _).mono ?_
  rintro e w1 ⟨rfl, hb1⟩
  have HF := Lib.hid ((HF0.out.box #[.int .i64 f.k, .int .i64 f.i, .int .i64 f.g, .string f.nm, .string f.fn, .int .i64 f.ar, .slice ai it.len ci, .string f.bs, .int .i64 f.n]).below hb1)
  clear hb1 HF0
  -- [0 box t, 1 rx la, 2 rx lb, 3 rx t, 4 base]
  go_wp2_with fail
  refine (Great_yes la _ _ _ _ _ (HF.out.rx0 1 rfl) (Nat.le_refl _) (by decide) (by decide) HG1.out).mono ?_
  rintro e w2 ⟨rfl, hbw2⟩
  have HF := Lib.hid (HF.out.below hbw2)
  clear hbw2
  go_wp2_with fail
  go_ret
  exact ⟨rfl, HF.out.base 4 rfl⟩
set_option maxRecDepth 100000 in
set_option maxHeartbeats 1000000 in
theorem lists_great2 (la : TL) (aa : Option Addr) (ca : Nat) (lb : TL) (ab : Option Addr) (cb : Nat) (f : Fd) (it : TL) (ai : Option Addr) (ci : Nat) (w : World) (hla : RdS w 0 w.heap.size la (.slice aa la.len ca)) (hlb : RdS w 0 w.heap.size lb (.slice ab lb.len cb)) (hs : RdS w 0 w.heap.size it (.slice ai it.len ci)) (hg1 : 0 ≤ leftF la 20000) (hg2 : leftF lb 20000 < 0) :
    Calls Try.prog 8 #[.slice aa la.len ca, .slice ab lb.len cb, .agg #[.int .i64 f.k, .int .i64 f.i, .int .i64 f.g, .string f.nm, .string f.fn, .int .i64 f.ar, .slice ai it.len ci, .string f.bs, .int .i64 f.n]] w (Yes w) := by
  have HG1 := Lib.hid hg1
  have HG2 := Lib.hid hg2
  clear hg1 hg2
  have HF0 := Lib.hid (show Bk w [.rx (fun b => b < w.heap.size) la (.slice aa la.len ca), .rx (fun b => b < w.heap.size) lb (.slice ab lb.len cb), .rx (fun b => b < w.heap.size) it (.slice ai it.len ci), .base w] from ⟨⟨hla.x fun b _ h => h, fun b h => h⟩, ⟨hlb.x fun b _ h => h, fun b h => h⟩, ⟨hs.x fun b _ h => h, fun b h => h⟩, Below.refl _ _, trivial⟩)
  clear hla hlb hs
  go_enter Try.func8, Try.ntmps8
  go_wp2_with fail
  refine (shown_any _).mono ?_
  rintro e w1 ⟨rfl, hb1⟩
  have HF := Lib.hid ((HF0.out.box #[.int .i64 f.k, .int .i64 f.i, .int .i64 f.g, .string f.nm, .string f.fn, .int .i64 f.ar, .slice ai it.len ci, .string f.bs, .int .i64 f.n]).below hb1)
  clear hb1 HF0
  -- [0 box t, 1 rx la, 2 rx lb, 3 rx t, 4 base]
  go_wp2_with fail
  refine (Great_no la _ _ _ _ _ (HF.out.rx0 1 rfl) (Nat.le_refl _) (by decide) (by decide) HG1.out).mono ?_
  rintro e w2 ⟨rfl, hbw2⟩
  have HF := Lib.hid (HF.out.below hbw2)
  clear hbw2
  go_wp2_with fail
  refine (Great_yes lb _ _ _ _ _ (HF.out.rx0 2 rfl) (Nat.le_refl _) (by decide) (by decide) HG2.out).mono ?_
  rintro e w3 ⟨rfl, hbw3⟩
  have HF := Lib.hid (HF.out.below hbw3)
  clear hbw3
  go_wp2_with fail
  go_ret
  exact ⟨rfl, HF.out.base 4 rfl⟩
set_option maxRecDepth 100000 in
set_option maxHeartbeats 1000000 in
theorem lists_great3 (la : TL) (aa : Option Addr) (ca : Nat) (lb : TL) (ab : Option Addr) (cb : Nat) (f : Fd) (it : TL) (ai : Option Addr) (ci : Nat) (w : World) (hla : RdS w 0 w.heap.size la (.slice aa la.len ca)) (hlb : RdS w 0 w.heap.size lb (.slice ab lb.len cb)) (hs : RdS w 0 w.heap.size it (.slice ai it.len ci)) (hg1 : 0 ≤ leftF la 20000) (hg2 : 0 ≤ leftF lb 20000) (hg3 : leftF (.cons f it .nil) 20000 < 0) :
    Calls Try.prog 8 #[.slice aa la.len ca, .slice ab lb.len cb, .agg #[.int .i64 f.k, .int .i64 f.i, .int .i64 f.g, .string f.nm, .string f.fn, .int .i64 f.ar, .slice ai it.len ci, .string f.bs, .int .i64 f.n]] w (Yes w) := by
  have HG1 := Lib.hid hg1
  have HG2 := Lib.hid hg2
  have HG3 := Lib.hid hg3
  clear hg1 hg2 hg3
  have HF0 := Lib.hid (show Bk w [.rx (fun b => b < w.heap.size) la (.slice aa la.len ca), .rx (fun b => b < w.heap.size) lb (.slice ab lb.len cb), .rx (fun b => b < w.heap.size) it (.slice ai it.len ci), .base w] from ⟨⟨hla.x fun b _ h => h, fun b h => h⟩, ⟨hlb.x fun b _ h => h, fun b h => h⟩, ⟨hs.x fun b _ h => h, fun b h => h⟩, Below.refl _ _, trivial⟩)
  clear hla hlb hs
  go_enter Try.func8, Try.ntmps8
  go_wp2_with fail
  refine (shown_any _).mono ?_
  rintro e w1 ⟨rfl, hb1⟩
  have HF := Lib.hid ((HF0.out.box #[.int .i64 f.k, .int .i64 f.i, .int .i64 f.g, .string f.nm, .string f.fn, .int .i64 f.ar, .slice ai it.len ci, .string f.bs, .int .i64 f.n]).below hb1)
  clear hb1 HF0
  -- [0 box t, 1 rx la, 2 rx lb, 3 rx t, 4 base]
  go_wp2_with fail
  refine (Great_no la _ _ _ _ _ (HF.out.rx0 1 rfl) (Nat.le_refl _) (by decide) (by decide) HG1.out).mono ?_
  rintro e w2 ⟨rfl, hbw2⟩
  have HF := Lib.hid (HF.out.below hbw2)
  clear hbw2
  go_wp2_with fail
  refine (Great_no lb _ _ _ _ _ (HF.out.rx0 2 rfl) (Nat.le_refl _) (by decide) (by decide) HG2.out).mono ?_
  rintro e w3 ⟨rfl, hbw3⟩
  have HF := Lib.hid (HF.out.below hbw3)
  clear hbw3
  obtain ⟨c0, c1, c2, c3, c4, c5, c6, c7, c8, -⟩ := nine_cells (HF.out.blk 0 rfl)
  go_wp2_with fail
  have h1 := RdS.one0 (f := f) (HF.out.rx0 3 rfl)
  refine (Great_yes _ _ _ _ _ _ h1 (by simp) (by decide) (by decide) HG3.out).mono ?_
  rintro e w4 ⟨rfl, hbw4⟩
  have HF := Lib.hid ((HF.out.alloc _).below hbw4)
  clear hbw4 h1 c0 c1 c2 c3 c4 c5 c6 c7 c8
  go_wp2_with fail
  go_ret
  exact ⟨rfl, HF.out.base 4 rfl⟩
set_option maxRecDepth 100000 in
set_option maxHeartbeats 4000000 in
theorem lists_main (la : TL) (aa : Option Addr) (ca : Nat) (lb : TL) (ab : Option Addr) (cb : Nat) (f : Fd) (it : TL) (ai : Option Addr) (ci : Nat) (w : World) (hla : RdS w 0 w.heap.size la (.slice aa la.len ca)) (hlb : RdS w 0 w.heap.size lb (.slice ab lb.len cb)) (hs : RdS w 0 w.heap.size it (.slice ai it.len ci)) (hg1 : 0 ≤ leftF la 20000) (hg2 : 0 ≤ leftF lb 20000) (hg3 : 0 ≤ leftF (.cons f it .nil) 20000) :
    Calls Try.prog 8 #[.slice aa la.len ca, .slice ab lb.len cb, .agg #[.int .i64 f.k, .int .i64 f.i, .int .i64 f.g, .string f.nm, .string f.fn, .int .i64 f.ar, .slice ai it.len ci, .string f.bs, .int .i64 f.n]] w (Yes w) := by
  have har : la ≠ .nil → ∃ b o, aa = some ⟨b, o, none⟩ ∧ Rd w 0 w.heap.size la b o := by
    obtain ⟨ao, cap, e, _, _, h⟩ := hla
    injection e with e1 _ _
    subst e1
    exact h
  have HAr := Lib.hid har
  clear har
  obtain ⟨hn1, hm1⟩ := left_cnt (by decide) hg1
  obtain ⟨hn2, hm2⟩ := left_cnt (by decide) hg2
  obtain ⟨ht, hn3⟩ := tame_of (by decide) hg3
  have hl1 := TL.len_le_cnt la
  have hl2 := TL.len_le_cnt lb
  obtain ⟨C, F, L, hp, hC⟩ := lists_bundle la lb f it (by omega) hm1 hm2 ht
  have HP := Lib.hid hp
  have HC := Lib.hid hC
  have HT := Lib.hid ht
  have HN2 := Lib.hid (show la.cnt ≤ 20000 ∧ lb.cnt ≤ 20000 ∧ it.cnt ≤ 20000 by omega)
  have HS1 := Lib.hid hm1
  have HN1 := Lib.hid (show la.len + lb.len ≤ 40000 by omega)
  have HG1 := Lib.hid hg1
  have HG2 := Lib.hid hg2
  have HG3 := Lib.hid hg3
  clear hn1 hm1 hn2 hm2 ht hn3 hp hC hg1 hg2 hg3 hl1 hl2
  have HF0 := Lib.hid (show Bk w [.rx (fun b => b < w.heap.size) la (.slice aa la.len ca), .rx (fun b => b < w.heap.size) lb (.slice ab lb.len cb), .rx (fun b => b < w.heap.size) it (.slice ai it.len ci), .base w] from ⟨⟨hla.x fun b _ h => h, fun b h => h⟩, ⟨hlb.x fun b _ h => h, fun b h => h⟩, ⟨hs.x fun b _ h => h, fun b h => h⟩, Below.refl _ _, trivial⟩)
  clear hla hlb hs
  go_enter Try.func8, Try.ntmps8
  go_wp2_with fail
  refine (shown_any _).mono ?_
  rintro e w1 ⟨rfl, hb1⟩
  have HF := Lib.hid ((HF0.out.box #[.int .i64 f.k, .int .i64 f.i, .int .i64 f.g, .string f.nm, .string f.fn, .int .i64 f.ar, .slice ai it.len ci, .string f.bs, .int .i64 f.n]).below hb1)
  clear hb1 HF0
  -- [0 box t, 1 rx la, 2 rx lb, 3 rx t, 4 base]
  go_wp2_with fail
  refine (Great_no la _ _ _ _ _ (HF.out.rx0 1 rfl) (Nat.le_refl _) (by decide) (by decide) HG1.out).mono ?_
  rintro e w2 ⟨rfl, hbw2⟩
  have HF := Lib.hid (HF.out.below hbw2)
  clear hbw2
  go_wp2_with fail
  refine (Great_no lb _ _ _ _ _ (HF.out.rx0 2 rfl) (Nat.le_refl _) (by decide) (by decide) HG2.out).mono ?_
  rintro e w3 ⟨rfl, hbw3⟩
  have HF := Lib.hid (HF.out.below hbw3)
  clear hbw3
  obtain ⟨c0, c1, c2, c3, c4, c5, c6, c7, c8, -⟩ := nine_cells (HF.out.blk 0 rfl)
  go_wp2_with fail
  have h1 := RdS.one0 (f := f) (HF.out.rx0 3 rfl)
  refine (Great_no _ _ _ _ _ _ h1 (by simp) (by decide) (by decide) HG3.out).mono ?_
  rintro e w4 ⟨rfl, hbw4⟩
  have HF := Lib.hid ((HF.out.alloc _).below hbw4)
  clear hbw4 h1 c0 c1 c2 c3 c4 c5 c6 c7 c8
  go_upto_region 5 with (fail)
  obtain ⟨w1, hw1⟩ : ∃ w1, w1 = w4 := ⟨_, rfl⟩
  rw [← hw1] at HF ⊢
  clear hw1
  obtain ⟨xa, hxa⟩ := ((HF.out.rx 1 rfl).1.rd0 (B := w.heap.size) fun b h => h).list
  obtain ⟨xb, hxb⟩ := ((HF.out.rx 2 rfl).1.rd0 (B := w.heap.size) fun b h => h).list
  have HXa := Lib.hid hxa
  have HXb := Lib.hid hxb
  have HHw := Lib.hid (HF.out.base 4 rfl).size
  clear hxa hxb
  go_cut [7, 8] (fun s7 s8 wx => ∃ L7 aj cj B1 B2, s7 = .pointer (some ⟨L7, 0, none⟩) ∧ s8 = .int .i64 C ∧ Hid (Bk wx [.blk L7 #[.int .i64 F.k, .int .i64 F.i, .int .i64 F.g, .string F.nm, .string F.fn, .int .i64 F.ar, .slice aj L.len cj, .string F.bs, .int .i64 F.n], .nw B1 B2 L (.slice aj L.len cj), .blk w.heap.size #[.int .i64 f.k, .int .i64 f.i, .int .i64 f.g, .string f.nm, .string f.fn, .int .i64 f.ar, .slice ai it.len ci, .string f.bs, .int .i64 f.n], .rx (fun b => b < w.heap.size) la (.slice aa la.len ca), .rx (fun b => b < w.heap.size) lb (.slice ab lb.len cb), .rx (fun b => b < w.heap.size) it (.slice ai it.len ci), .base w]) ∧ Hid ((L7 < B1 ∨ B2 ≤ L7) ∧ w1.heap.size ≤ L7 ∧ L7 < wx.heap.size))
  case first =>
    refine wp_region_fslots (by kernel_rfl) 12 w1.heap.size Lsd (fun i => LsD.getD i []) LsT (LsG w1 la lb xa aa ab ca cb f it ai ci C F L) (Nat.le_refl _) (by kernel_rfl) (by decide) (by kernel_rfl) (by decide) (by rfl) (dep_of (by kernel_rfl)) ?_ (LsG_keep w1 la lb xa aa ab ca cb f it ai ci C F L) ?_ ?_
    · intro i j h1 h2
      unfold LsT at h2
      split at h2
      · rename_i e; subst e; injection h2 with h2; subst h2; decide
      · split at h2
        · rename_i e; subst e; injection h2 with h2; subst h2; decide
        · cases h2
    · intro i o hin ho f0 v lo hi W hfi hk haft A hA hZ K' hK
      have HK := Lib.hid hK
      have HKn := Lib.hid hk
      have HAf := Lib.hid haft
      have HA := Lib.hid hA
      have HZ := Lib.hid hZ
      clear hK hk haft hA hZ
      match i, hin, ho with
      | 0, _, ho =>
        clear HAf HA HZ
        cases ho
        go_simp
        exact HK.out (.slice (some ⟨W.heap.size, 0, none⟩) 0 0) (W.alloc (.cells #[] 24 (0, 0))) (Moves.of_below (below_alloc _ _)) (ls_none (by decide)) ⟨by simp [updG], by simp [updG], by simp only [updG_at]; exact heap_alloc_new _ _⟩
      | 1, _, ho =>
        have z0 : A.tmps[0]? = some (.slice aa la.len ca) := HZ.out 0 (by decide)
        clear HAf HA HZ
        cases ho
        go_simp
        exact HK.out (.slice aa la.len ca) W (Moves.of_below (Below.refl _ _)) (ls_none (by decide)) (updG_at v 1 _)
      | 2, _, ho =>
        have ff0 : f0 0 = true := by cases ho; exact HAf.out ⟨0, .data⟩ (by simp) rfl
        have f1 : f0 1 = true := by cases ho; exact HAf.out ⟨1, .data⟩ (by simp) rfl
        obtain ⟨h0, hl0, hc0⟩ := HKn.out.word 0 (by decide) ff0
        have h1 : v 1 = .slice aa la.len ca := HKn.out.word 1 (by decide) f1
        have s0 : A.tmps[34]? = some (.slice (some ⟨lo 0, 0, none⟩) 0 0) := (HA.out 0 34 (by decide) rfl).trans (congrArg some h0)
        have s1 : A.tmps[35]? = some (.slice aa la.len ca) := (HA.out 1 35 (by decide) rfl).trans (congrArg some h1)
        have hown : W.ownsRow 0 24 9 (.slice (some ⟨lo 0, 0, none⟩) 0 0) 0 [] := ⟨rfl, .inr ⟨lo 0, 0, #[], rfl, Nat.zero_le _, hc0, Nat.le_refl _, Nat.zero_le _, rfl, rfl⟩⟩
        obtain ⟨vq, wq, hrun, hq, hd⟩ := app_any (W := W) 22 (lo 0) 0 0 [] aa la.len ca xa hown HXa.out.2.1 HXa.out.1.len (fun ad had j u hu => below_keep HKn.out.below (HXa.out.2.2 ad had j u hu)) HXa.out.1.one (by have := HN1.out; omega)
        have HQ := Lib.hid hq
        have HD := Lib.hid hd
        have HO0 := Lib.hid hown
        clear HAf HA HZ hq hd hown ff0 f1 h0 h1 hc0 HKn
        cases ho
        rw [if_pos (by rfl)]
        refine wp_builtin_append (.tmp 34) (.tmp 35) rfl _ _ vq wq (by simp [Act.eval, s0]) (by simp [Act.eval, s1]) hrun ?_
        rcases HD.out with ⟨hm, rfl, rfl⟩ | ⟨hm, hle, -, -⟩ | ⟨hm, g', cap', rfl, hg1, hg2, hgr⟩
        · exact HK.out (.slice (some ⟨lo 0, 0, none⟩) 0 0) wq (Moves.of_below (Below.refl _ _)) (ls_none (by decide)) (.inl ⟨hm, lo 0, updG_at _ _ _, by rw [updG_ne _ _ (by decide)]; exact Nat.le_refl _, by rw [updG_ne _ _ (by decide)]; exact hl0, HO0.out⟩)
        · omega
        · have e : 0 + la.len = la.len := Nat.zero_add _
          rw [e] at HQ ⊢
          exact HK.out (.slice (some ⟨g', 0, none⟩) la.len cap') wq (Moves.of_below ((Below.refl _ _).grown hgr (Nat.le_refl _) fun k h => by cases h)) (ls_none (by decide)) (.inr ⟨hm, g', cap', updG_at _ _ _, by rw [updG_at]; exact hg1, by rw [updG_at]; exact hg2, fun _ => HQ.out⟩)
      | 3, _, ho =>
        have z1 : A.tmps[1]? = some (.slice ab lb.len cb) := HZ.out 1 (by decide)
        clear HAf HA HZ
        cases ho
        go_simp
        exact HK.out (.slice ab lb.len cb) W (Moves.of_below (Below.refl _ _)) (ls_none (by decide)) (updG_at v 3 _)
      | 4, _, ho =>
        have f2 : f0 2 = true := by cases ho; exact HAf.out ⟨2, .data⟩ (by simp) rfl
        have f3 : f0 3 = true := by cases ho; exact HAf.out ⟨3, .data⟩ (by simp) rfl
        have h3 : v 3 = .slice ab lb.len cb := HKn.out.word 3 (by decide) f3
        have s3 : A.tmps[37]? = some (.slice ab lb.len cb) := (HA.out 3 37 (by decide) rfl).trans (congrArg some h3)
        have HTG : ∀ w', LsG w1 la lb xa aa ab ca cb f it ai ci C F L 2 (upd f0 4) v lo hi w' → ∀ j, LsT 4 = some j → ∀ k, k < 12 → f0 k = true → (k = j ∨ j ∈ LsD.getD k []) → LsG w1 la lb xa aa ab ca cb f it ai ci C F L k (upd f0 4) v lo hi w' := by
          intro w' hw j hj k hk12 hfk hkj
          have hj2 : j = 2 := by unfold LsT at hj; rw [if_pos rfl] at hj; injection hj with hj; exact hj.symm
          subst hj2
          rcases hkj with rfl | h
          · exact hw
          · match k, hk12, h with
            | 4, _, _ => rw [hfi] at hfk; cases hfk
            | 0, _, h | 1, _, h | 2, _, h | 3, _, h | 5, _, h | 6, _, h | 7, _, h | 8, _, h | 9, _, h | 10, _, h | 11, _, h => exact absurd h (by decide)
        rcases HKn.out.word 2 (by decide) f2 with ⟨hn, g, h2, hg1, hg2, hown⟩ | ⟨hn, g, cap, h2, hg1, hg2, hown⟩
        · have s2 : A.tmps[36]? = some (.slice (some ⟨g, 0, none⟩) 0 0) := (HA.out 2 36 (by decide) rfl).trans (congrArg some h2)
          obtain ⟨vq, wq, hrun, hq, hd⟩ := app_any (W := W) 22 g 0 0 [] ab lb.len cb xb hown HXb.out.2.1 HXb.out.1.len (fun ad had j u hu => below_keep HKn.out.below (HXb.out.2.2 ad had j u hu)) HXb.out.1.one (by have := HN1.out; omega)
          have HQ := Lib.hid hq
          have HD := Lib.hid hd
          have HH2 := Lib.hid h2
          have HOw := Lib.hid hown
          have H0 := Lib.hid (show la.app lb = lb by cases la with | nil => rfl | cons _ _ _ => simp [TL.len] at hn)
          have HNl := Lib.hid hn
          clear HAf HA HZ hq hd hown f2 f3 h2 h3 hn
          cases ho
          rw [if_pos (by rfl)]
          refine wp_builtin_append (.tmp 36) (.tmp 37) rfl _ _ vq wq (by simp [Act.eval, s2]) (by simp [Act.eval, s3]) hrun ?_
          rcases HD.out with ⟨hm, rfl, rfl⟩ | ⟨hm, hle, -, -⟩ | ⟨hm, g', cap', rfl, hq1, hq2, hgr⟩
          · refine HK.out (.slice (some ⟨g, 0, none⟩) 0 0) wq ⟨rfl, rfl, rfl, Nat.le_refl _, fun _ _ _ => rfl⟩ (HTG wq (.inl ⟨HNl.out, g, HH2.out, hg1, hg2, HOw.out⟩)) ⟨some ⟨g, 0, none⟩, 0, by rw [updG_at, HNl.out, hm], fun W' _ _ => ?_⟩
            have e : la.app lb = .nil := by rw [H0.out]; exact TL.len_zero hm
            rw [e, HNl.out, hm]
            exact ⟨_, _, rfl, Nat.le_refl _, by unfold maxLen; omega, fun h => absurd rfl h⟩
          · omega
          · have hb2 := (Below.refl W.heap.size W).grown hgr (Nat.le_refl _) (fun k h => by cases h)
            refine HK.out _ wq (Moves.of_below hb2) (HTG wq ?_) ⟨some ⟨g', 0, none⟩, cap', by rw [updG_at, HNl.out], fun W' hW hB => ?_⟩
            · exact .inl ⟨HNl.out, g, HH2.out, hg1, hg2, own_at HOw.out (hb2.block g (HOw.out.lt g rfl).2)⟩
            · rw [HNl.out, H0.out]
              have hx := HQ.out
              simp only [Nat.zero_add, List.nil_append] at hx
              rw [Nat.zero_add]
              exact RdS.of_owns (own_at hx (hW g' (.inr ⟨by rw [updG_at]; exact hq1, by rw [updG_at]; exact hq2⟩))) rfl (Nat.le_refl _) (Nat.le_refl _) (RdL.wide (Nat.le_refl _) (Nat.le_trans HHw.out hB.size) (HXb.out.1.below hB HHw.out))
        · have s2 : A.tmps[36]? = some (.slice (some ⟨g, 0, none⟩) la.len cap) := (HA.out 2 36 (by decide) rfl).trans (congrArg some h2)
          have hown := hown hfi
          obtain ⟨vq, wq, hrun, hq, hd⟩ := app_any (W := W) 22 g la.len cap xa ab lb.len cb xb hown HXb.out.2.1 HXb.out.1.len (fun ad had j u hu => below_keep HKn.out.below (HXb.out.2.2 ad had j u hu)) HXb.out.1.one (by have := HN1.out; omega)
          have HQ := Lib.hid hq
          have HD := Lib.hid hd
          have HH2 := Lib.hid h2
          have HNl := Lib.hid hn
          clear HAf HA HZ hq hd hown f2 f3 h2 h3 hn
          cases ho
          rw [if_pos (by rfl)]
          refine wp_builtin_append (.tmp 36) (.tmp 37) rfl _ _ vq wq (by simp [Act.eval, s2]) (by simp [Act.eval, s3]) hrun ?_
          have HG2 := Lib.hid (show ∀ w', LsG w1 la lb xa aa ab ca cb f it ai ci C F L 2 (upd f0 4) v lo hi w' from fun w' => .inr ⟨HNl.out, g, cap, HH2.out, hg1, hg2, fun h => by rw [upd_at] at h; cases h⟩)
          have HRd := Lib.hid (show ∀ W' g' cap', W'.ownsRow 0 24 9 (.slice (some ⟨g', 0, none⟩) (la.len + lb.len) cap') (la.len + lb.len) (xa ++ xb) → Below w1.heap.size w1 W' → RdS W' 0 W'.heap.size (la.app lb) (.slice (some ⟨g', 0, none⟩) (la.len + lb.len) cap') from fun W' g' cap' h hB => RdS.of_owns h (TL.len_app _ _).symm (Nat.le_refl _) (Nat.le_refl _) (RdL.wide (Nat.le_refl _) (Nat.le_trans HHw.out hB.size) (RdL.app (HXa.out.1.below hB HHw.out) (HXb.out.1.below hB HHw.out))))
          rcases HD.out with ⟨hm, rfl, rfl⟩ | ⟨hm, hle, rfl, hgr⟩ | ⟨hm, g', cap', rfl, hq1, hq2, hgr⟩
          · refine HK.out _ wq ⟨rfl, rfl, rfl, Nat.le_refl _, fun _ _ _ => rfl⟩ (HTG wq (HG2.out wq)) ⟨some ⟨g, 0, none⟩, cap, by rw [updG_at, hm, Nat.add_zero], fun W' hW hB => ?_⟩
            have hx := HQ.out
            rw [show Value.slice (some ⟨g, 0, none⟩) la.len cap = .slice (some ⟨g, 0, none⟩) (la.len + lb.len) cap by rw [hm, Nat.add_zero]] at hx
            exact HRd.out W' g cap (own_at hx (hW g (.inl ⟨by rw [updG_ne _ _ (by decide)]; exact hg1, by rw [updG_ne _ _ (by decide)]; exact hg2⟩))) hB
          · refine HK.out _ wq ⟨hgr.os, hgr.tape, hgr.output, hgr.size, fun k hk hj => hgr.block k hk ?_⟩ (HTG wq (HG2.out wq)) ⟨some ⟨g, 0, none⟩, cap, updG_at _ _ _, fun W' hW hB => ?_⟩
            · have := hj 2 rfl
              simp
              omega
            · exact HRd.out W' g cap (own_at HQ.out (hW g (.inl ⟨by rw [updG_ne _ _ (by decide)]; exact hg1, by rw [updG_ne _ _ (by decide)]; exact hg2⟩))) hB
          · have hb2 := (Below.refl W.heap.size W).grown hgr (Nat.le_refl _) (fun k h => by cases h)
            refine HK.out _ wq ⟨hb2.os, hb2.tape, hb2.output, hb2.size, fun k hk _ => hb2.block k hk⟩ (HTG wq (HG2.out wq)) ⟨some ⟨g', 0, none⟩, cap', updG_at _ _ _, fun W' hW hB => ?_⟩
            exact HRd.out W' g' cap' (own_at HQ.out (hW g' (.inr ⟨by rw [updG_at]; exact hq1, by rw [updG_at]; exact hq2⟩))) hB
      | 5, _, ho =>
        have z5 : A.tmps[5]? = some (.pointer (some ⟨w.heap.size, 0, none⟩)) := HZ.out 5 (by decide)
        obtain ⟨c0, c1, c2, c3, c4, c5, c6, c7, c8, -⟩ := nine_cells (keepB HKn.out.below (HF.out.blk 0 rfl))
        clear HAf HA HZ
        cases ho
        go_simp
        exact HK.out (.agg #[.int .i64 f.k, .int .i64 f.i, .int .i64 f.g, .string f.nm, .string f.fn, .int .i64 f.ar, .slice ai it.len ci, .string f.bs, .int .i64 f.n]) W (Moves.of_below (Below.refl _ _)) (ls_none (by decide)) (updG_at v 5 _)
      | 6, _, ho =>
        have f4 : f0 4 = true := by cases ho; exact HAf.out ⟨4, .data⟩ (by simp) rfl
        have f5 : f0 5 = true := by cases ho; exact HAf.out ⟨5, .data⟩ (by simp) rfl
        obtain ⟨aq, cq, h4, hr4⟩ := HKn.out.word 4 (by decide) f4
        have h5 : v 5 = .agg #[.int .i64 f.k, .int .i64 f.i, .int .i64 f.g, .string f.nm, .string f.fn, .int .i64 f.ar, .slice ai it.len ci, .string f.bs, .int .i64 f.n] := HKn.out.word 5 (by decide) f5
        have s4 : A.tmps[38]? = some (.slice aq (la.len + lb.len) cq) := (HA.out 4 38 (by decide) rfl).trans (congrArg some h4)
        have s5 : A.tmps[39]? = some (.agg #[.int .i64 f.k, .int .i64 f.i, .int .i64 f.g, .string f.nm, .string f.fn, .int .i64 f.ar, .slice ai it.len ci, .string f.bs, .int .i64 f.n]) := (HA.out 5 39 (by decide) rfl).trans (congrArg some h5)
        have HR4 := Lib.hid (hr4 W (fun _ _ => rfl) HKn.out.below)
        have HRt := Lib.hid ((HF.out.below HKn.out.below).rx0 3 rfl)
        clear HAf HA HZ f4 f5 h4 h5 hr4
        cases ho
        go_simp
        refine (HP.out _ _ W _ _ _ _ HR4.out HRt.out (Nat.le_refl _) (Nat.le_refl _)).mono ?_
        rintro e wq ⟨aj, cj, rfl, hn, hb2⟩
        exact HK.out (.tuple #[.agg #[.int .i64 F.k, .int .i64 F.i, .int .i64 F.g, .string F.nm, .string F.fn, .int .i64 F.ar, .slice aj L.len cj, .string F.bs, .int .i64 F.n], .int .i64 C]) wq (Moves.of_below hb2) (ls_none (by decide)) ⟨aj, cj, updG_at _ _ _, by simp only [updG_at]; exact hn⟩
      | 7, _, ho =>
        have f6 : f0 6 = true := by cases ho; exact HAf.out ⟨6, .data⟩ (by simp) rfl
        obtain ⟨aj, cj, h6, -⟩ := HKn.out.word 6 (by decide) f6
        have s6 : A.tmps[40]? = some (.tuple #[.agg #[.int .i64 F.k, .int .i64 F.i, .int .i64 F.g, .string F.nm, .string F.fn, .int .i64 F.ar, .slice aj L.len cj, .string F.bs, .int .i64 F.n], .int .i64 C]) := (HA.out 6 40 (by decide) rfl).trans (congrArg some h6)
        have H6 := Lib.hid h6
        clear HAf HA HZ f6 h6 HKn
        cases ho
        go_simp
        exact HK.out (.tuple #[.agg #[.int .i64 F.k, .int .i64 F.i, .int .i64 F.g, .string F.nm, .string F.fn, .int .i64 F.ar, .slice aj L.len cj, .string F.bs, .int .i64 F.n], .int .i64 C]) W (Moves.of_below (Below.refl _ _)) (ls_none (by decide)) ⟨by rw [updG_at, updG_ne _ _ (by decide)]; exact H6.out.symm, aj, cj, updG_at _ _ _⟩
      | 8, _, ho =>
        have f7 : f0 7 = true := by cases ho; exact HAf.out ⟨7, .data⟩ (by simp) rfl
        obtain ⟨-, aj, cj, h7⟩ := HKn.out.word 7 (by decide) f7
        have s7 : A.tmps[33]? = some (.tuple #[.agg #[.int .i64 F.k, .int .i64 F.i, .int .i64 F.g, .string F.nm, .string F.fn, .int .i64 F.ar, .slice aj L.len cj, .string F.bs, .int .i64 F.n], .int .i64 C]) := (HA.out 7 33 (by decide) rfl).trans (congrArg some h7)
        have H7 := Lib.hid h7
        clear HAf HA HZ f7 h7 HKn
        cases ho
        go_simp
        exact HK.out (.agg #[.int .i64 F.k, .int .i64 F.i, .int .i64 F.g, .string F.nm, .string F.fn, .int .i64 F.ar, .slice aj L.len cj, .string F.bs, .int .i64 F.n]) W (Moves.of_below (Below.refl _ _)) (ls_none (by decide)) ⟨.int .i64 C, by rw [updG_ne _ _ (by decide), updG_at]; exact H7.out⟩
      | 9, _, ho =>
        have f7 : f0 7 = true := by cases ho; exact HAf.out ⟨7, .data⟩ (by simp) rfl
        obtain ⟨-, aj, cj, h7⟩ := HKn.out.word 7 (by decide) f7
        have s7 : A.tmps[33]? = some (.tuple #[.agg #[.int .i64 F.k, .int .i64 F.i, .int .i64 F.g, .string F.nm, .string F.fn, .int .i64 F.ar, .slice aj L.len cj, .string F.bs, .int .i64 F.n], .int .i64 C]) := (HA.out 7 33 (by decide) rfl).trans (congrArg some h7)
        have H7 := Lib.hid h7
        clear HAf HA HZ f7 h7 HKn
        cases ho
        go_simp
        exact HK.out (.int .i64 C) W (Moves.of_below (Below.refl _ _)) (ls_none (by decide)) ⟨.agg #[.int .i64 F.k, .int .i64 F.i, .int .i64 F.g, .string F.nm, .string F.fn, .int .i64 F.ar, .slice aj L.len cj, .string F.bs, .int .i64 F.n], by rw [updG_ne _ _ (by decide), updG_at]; exact H7.out⟩
      | 10, _, ho =>
        clear HAf HA HZ HKn
        cases ho
        go_simp
        exact HK.out (.pointer (some ⟨W.heap.size, 0, none⟩)) (W.alloc (.cells #[.int .i64 0, .int .i64 0, .int .i64 0, .string ⟨#[]⟩, .string ⟨#[]⟩, .int .i64 0, .slice none 0 0, .string ⟨#[]⟩, .int .i64 0] 24 (0, 0))) (Moves.of_below (below_alloc _ _)) (ls_none (by decide)) ⟨by simp [updG], by simp [updG], _, _, _, _, _, _, _, _, _, by simp only [updG_at]; exact heap_alloc_new _ _⟩
      | 11, _, ho =>
        have f10 : f0 10 = true := by cases ho; exact HAf.out ⟨10, .data⟩ (by simp) rfl
        have f8 : f0 8 = true := by cases ho; exact HAf.out ⟨8, .data⟩ (by simp) rfl
        have f6 : f0 6 = true := by cases ho; exact HAf.out ⟨6, .chain⟩ (by simp) rfl
        have f7 : f0 7 = true := by cases ho; exact HAf.out ⟨7, .phase⟩ (by simp) rfl
        obtain ⟨h10, hl10, e0, e1, e2, e3, e4, e5, e6, e7, e8, hc10⟩ := HKn.out.word 10 (by decide) f10
        obtain ⟨h76, -⟩ := HKn.out.word 7 (by decide) f7
        obtain ⟨aj, cj, h6, -⟩ := HKn.out.word 6 (by decide) f6
        obtain ⟨y, h8⟩ := HKn.out.word 8 (by decide) f8
        have h8' : v 8 = .agg #[.int .i64 F.k, .int .i64 F.i, .int .i64 F.g, .string F.nm, .string F.fn, .int .i64 F.ar, .slice aj L.len cj, .string F.bs, .int .i64 F.n] := by
          rw [h76, h6] at h8
          injection h8 with h8
          have := congrArg (fun a : Array Value => a.toList) h8
          simp at this
          exact this.1.symm
        have s10 : A.tmps[7]? = some (.pointer (some ⟨lo 10, 0, none⟩)) := (HA.out 10 7 (by decide) rfl).trans (congrArg some h10)
        have s8 : A.tmps[41]? = some (.agg #[.int .i64 F.k, .int .i64 F.i, .int .i64 F.g, .string F.nm, .string F.fn, .int .i64 F.ar, .slice aj L.len cj, .string F.bs, .int .i64 F.n]) := (HA.out 8 41 (by decide) rfl).trans (congrArg some h8')
        obtain ⟨d0, d1, d2, d3, d4, d5, d6, d7, d8, fr⟩ := nine_cells hc10
        obtain ⟨W', hW', m1, m2, m3⟩ := ls_store w1 la lb xa aa ab ca cb f it ai ci C F L (fl := upd f0 11) h10 hl10 hc10 h6
        have hW' := Lib.hid hW'
        clear HAf HA HZ f10 f8 f6 f7 h10 hl10 hc10 h76 h6 h8 h8'
        cases ho
        go_simp
        rw [← hW'.out]
        exact HK.out undef W' m1 (fun j hj k hk9 _ hkj => m2 j hj k hk9 hkj) (m3 _ _ _)
    · intro v lo hi W hk
      obtain ⟨h10, hl10, -⟩ := hk.word 10 (by decide) rfl
      obtain ⟨h76, -⟩ := hk.word 7 (by decide) rfl
      obtain ⟨aj, cj, h6, hn6⟩ := hk.word 6 (by decide) rfl
      obtain ⟨-, aj', cj', h6', h11⟩ := hk.word 11 (by decide) rfl
      obtain ⟨x, h9⟩ := hk.word 9 (by decide) rfl
      have hr6 := hk.range 6 (by decide) rfl
      have hr10 := hk.range 10 (by decide) rfl
      have ha := hk.apart 6 10 (by decide) (by decide) (by decide) rfl rfl
      have h9' : v 9 = .int .i64 C := by
        rw [h76, h6] at h9
        injection h9 with h9
        have := congrArg (fun a : Array Value => a.toList) h9
        simp at this
        exact this.2.symm
      have he : aj' = aj ∧ cj' = cj := by
        rw [h6] at h6'
        injection h6' with h6'
        have := congrArg (fun a : Array Value => a.toList) h6'
        simp at this
        exact ⟨this.1.symm, this.2.symm⟩
      obtain ⟨rfl, rfl⟩ := he
      have HF1 := Lib.hid (((HF.out.below hk.below).add (f := .nw (lo 6) (hi 6) L (.slice aj' L.len cj')) ⟨hn6, hr6.2.1, hr6.2.2⟩).add (f := .blk (lo 10) #[.int .i64 F.k, .int .i64 F.i, .int .i64 F.g, .string F.nm, .string F.fn, .int .i64 F.ar, .slice aj' L.len cj', .string F.bs, .int .i64 F.n]) h11)
      have HAp := Lib.hid (show (lo 10 < lo 6 ∨ hi 6 ≤ lo 10) ∧ w1.heap.size ≤ lo 10 ∧ lo 10 < W.heap.size by omega)
      have H9 := Lib.hid h9'
      have H10 := Lib.hid h10
      clear hk h76 h6 hn6 h6' h11 h9 hr6 hr10 ha h9' h10 hl10 HF HXa HXb HHw HP HN1
      simp only [canon, Lsd, Act.put, List.getD_cons_succ, List.getD_cons_zero, List.drop_succ_cons, List.drop_zero, List.setIfInBounds_toArray, List.set_cons_zero, List.set_cons_succ]
      rw [H9.out, H10.out]
      go_wp2_with fail
      go_meet
      exact ⟨lo 10, aj', cj', lo 6, hi 6, rfl, rfl, HF1, HAp⟩
  case rest =>
    obtain ⟨L7, aj, cj, B1, B2, rfl, rfl, HF, HAp⟩ := hcut
    have hw1 := HHw.out
    clear HXa HXb HHw HP
    rcases HC.out with rfl | rfl | ⟨rfl, F2, L2, p1, p2, p3, p4, p5, p6, p7, p8, p9⟩
    · go_wp2_with fail
      go_ret
      exact ⟨rfl, HF.out.base 6 rfl⟩
    · go_wp2_with fail
      go_ret
      exact ⟨rfl, HF.out.base 6 rfl⟩
    · have HP1 := Lib.hid p1
      have HP2 := Lib.hid p2
      have HF2 := Lib.hid p3
      have HT2 := Lib.hid p4
      have HN3 := Lib.hid p5
      have HLa := Lib.hid p6
      have HW := Lib.hid p7
      have HE := Lib.hid (And.intro p8 p9)
      clear p1 p2 p3 p4 p5 p6 p7 p8 p9 HC
      have hzc := HF.out.base 6 rfl |>.size
      have hq1 := HAp.out.1
      have hq2 := HAp.out.2.1
      have hq3 := HAp.out.2.2
      have HLs := Lib.hid (lst_size HLa.out HF2.out)
      have HTL := Lib.hid (tame_list (l := la) (f := F2) (it := L2) (by have := HN2.out; have := HN3.out; omega) HS1.out HT2.out).1
      have HVd := Lib.hid (show validF F L = true by rw [HE.out.1, HE.out.2]; unfold validF; rw [HLs.out.1, HLs.out.2, Bool.true_and, decide_eq_true HW.out])
      have HTF := Lib.hid (show tame F L by rw [HE.out.1, HE.out.2]; exact HTL.out)
      clear HLs HTL
      obtain ⟨c0, c1, c2, c3, c4, c5, c6, c7, c8, -⟩ := nine_cells (HF.out.blk 2 rfl)
      go_wp2_with fail
      refine (HP1.out _ _ _ _ _ _ _ (HF.out.rx0 4 rfl) (HF.out.rx0 5 rfl) (Nat.le_refl _) (Nat.le_refl _)).mono ?_
      rintro e w11 ⟨a11, c11, rfl, hnw11, hbw11⟩
      have hzw11 : wc.heap.size + 0 ≤ w11.heap.size := by have := hbw11.size; first | omega | (simp at this; omega)
      have HF := Lib.hid (((HF.out).below hbw11).add (f := .nw (wc.heap.size + 0) w11.heap.size L2 _) ⟨hnw11.wide (by simp) (Nat.le_refl _), by omega, Nat.le_refl _⟩)
      clear hbw11 hnw11 c0 c1 c2 c3 c4 c5 c6 c7 c8
      have HF := Lib.hid (HF.out.box #[.int .i64 F2.k, .int .i64 F2.i, .int .i64 F2.g, .string F2.nm, .string F2.fn, .int .i64 F2.ar, .slice a11 L2.len c11, .string F2.bs, .int .i64 F2.n])
      go_wp2_with fail
      refine (HP2.out _ _ _ _ _ _ _ (HF.out.rx0 5 rfl) (HF.out.nw0 1 rfl) (Nat.le_refl _) (Nat.le_refl _)).mono ?_
      rintro e w12 ⟨a12, c12, rfl, hnw12, hbw12⟩
      have hzw12 : w11.heap.size + 1 ≤ w12.heap.size := by have := hbw12.size; first | omega | (simp at this; omega)
      have HF := Lib.hid (((HF.out).below hbw12).add (f := .nw (w11.heap.size + 1) w12.heap.size L _) ⟨hnw12.wide (by simp) (Nat.le_refl _), by omega, Nat.le_refl _⟩)
      clear hbw12 hnw12
      have HF := Lib.hid (HF.out.box #[.int .i64 F.k, .int .i64 F.i, .int .i64 F.g, .string F.nm, .string F.fn, .int .i64 F.ar, .slice a12 L.len c12, .string F.bs, .int .i64 F.n])
      obtain ⟨c0, c1, c2, c3, c4, c5, c6, c7, c8, -⟩ := nine_cells (HF.out.blk 4 rfl)
      go_wp2_with fail
      refine (kitSame_eq F L _ _ _ _ _ (HF.out.nw0 1 rfl) (HF.out.nw0 5 rfl)).mono ?_
      rintro e w13 ⟨rfl, hbw13⟩
      have HF := Lib.hid ((HF.out).below hbw13)
      have hzw13 : w12.heap.size + 1 ≤ w13.heap.size := by have := hbw13.size; first | omega | (simp at this; omega)
      clear hbw13 c0 c1 c2 c3 c4 c5 c6 c7 c8
      obtain ⟨c0, c1, c2, c3, c4, c5, c6, c7, c8, -⟩ := nine_cells (HF.out.blk 4 rfl)
      go_wp2_with fail
      refine (pValid_any F L _ _ _ _ HTF.out (HF.out.nw0 5 rfl) (Nat.le_refl _)).mono ?_
      rintro e w14 ⟨he14, hb14⟩
      obtain rfl := he14.trans (show _ = Ending.returned (.bool true) by rw [HVd.out])
      have HF := Lib.hid (HF.out.below hb14)
      have hz14 : w13.heap.size ≤ w14.heap.size := hb14.size
      clear hb14 he14 c0 c1 c2 c3 c4 c5 c6 c7 c8
      go_wp2_with fail
      go_loopw [13] (fun i wr => ∃ (k : Nat) (ak : Option Addr) (ck A1 A2 : Nat), k ≤ la.len ∧ i = .int .i64 k ∧ Hid (Bk wr [.blk L7 #[.int .i64 (lstF (la.drop k) F2).k, .int .i64 (lstF (la.drop k) F2).i, .int .i64 (lstF (la.drop k) F2).g, .string (lstF (la.drop k) F2).nm, .string (lstF (la.drop k) F2).fn, .int .i64 (lstF (la.drop k) F2).ar, .slice ak (lstL (la.drop k) F2 L2).len ck, .string (lstF (la.drop k) F2).bs, .int .i64 (lstF (la.drop k) F2).n], .nw A1 A2 (lstL (la.drop k) F2 L2) (.slice ak (lstL (la.drop k) F2 L2).len ck), .blk w11.heap.size #[.int .i64 F2.k, .int .i64 F2.i, .int .i64 F2.g, .string F2.nm, .string F2.fn, .int .i64 F2.ar, .slice a11 L2.len c11, .string F2.bs, .int .i64 F2.n], .nw wc.heap.size w11.heap.size L2 (.slice a11 L2.len c11), .rx (fun b => b < w.heap.size) la (.slice aa la.len ca), .base w]) ∧ Hid ((L7 < A1 ∨ A2 ≤ L7) ∧ w11.heap.size < wr.heap.size)) (fun i _ => la.len - (intOf i).toNat)
      case atStart =>
        refine ⟨0, aj, cj, B1, B2, Nat.zero_le _, rfl, Lib.hid ?_, Lib.hid ⟨hq1, by omega⟩⟩
        rw [TL.drop_zero, ← HE.out.1, ← HE.out.2]
        exact ⟨HF.out.blk 4 rfl, HF.out.nw 5 rfl, HF.out.blk 2 rfl, HF.out.nw 3 rfl, HF.out.rx 7 rfl, HF.out.base 10 rfl, trivial⟩
      case round =>
        obtain ⟨k, ak, ck, A1, A2, hk, rfl, HR, HQ⟩ := hrel
        clear HF
        have HF := HR
        clear HR
        by_cases hlt : k < la.len
        · have hlt' : (k : Int) < (la.len : Int) := by omega
          have hlb : decide ((k : Int) < (la.len : Int)) = true := decide_eq_true hlt'
          have hkb : la.len ≤ 40000 := by have := HN1.out; omega
          have hqA := HQ.out.1
          obtain ⟨fa, ia, Fk, Lk, Fn, Ln, e1, e2, e3, e4, e5, hia, q1, q2, q3⟩ := step_calls la F2 L2 k hlt (by have := HN2.out; have := HN3.out; omega) HS1.out HT2.out HLa.out HF2.out HW.out
          rw [← e2, ← e3] at HF
          have HE4 := Lib.hid (And.intro e4 e5)
          have HQ1 := Lib.hid q1
          have HQ2 := Lib.hid q2
          have HQ3 := Lib.hid q3
          obtain ⟨b, ob, rfl, hrd⟩ := HAr.out (by intro e; rw [e] at hlt; simp [TL.len] at hlt)
          have HRd := Lib.hid hrd
          have HE1 := Lib.hid e1
          have hqz := HQ.out.2
          have hq7 := lt_of_block (HF.out.blk 0 rfl)
          clear e1 e2 e3 e4 e5 q1 q2 q3 hrd
          obtain ⟨c0, c1, c2, c3, c4, c5, c6, c7, c8, -⟩ := nine_cells (HF.out.blk 0 rfl)
          go_wp2_with fail
          refine (HQ1.out _ _ _ _ (HF.out.nw0 1 rfl) (Nat.le_refl _)).mono ?_
          rintro e w15 ⟨a15, c15, rfl, hnw15, hbw15⟩
          have hzw15 : wr.heap.size + 0 ≤ w15.heap.size := by have := hbw15.size; first | omega | (simp at this; omega)
          have HF := Lib.hid (((HF.out).below hbw15).add (f := .nw (wr.heap.size + 0) w15.heap.size ia _) ⟨hnw15.wide (by simp) (Nat.le_refl _), by omega, Nat.le_refl _⟩)
          clear hbw15 hnw15 c0 c1 c2 c3 c4 c5 c6 c7 c8
          have HF := Lib.hid (HF.out.box #[.int .i64 fa.k, .int .i64 fa.i, .int .i64 fa.g, .string fa.nm, .string fa.fn, .int .i64 fa.ar, .slice a15 ia.len c15, .string fa.bs, .int .i64 fa.n])
          obtain ⟨c0, c1, c2, c3, c4, c5, c6, c7, c8, -⟩ := nine_cells (HF.out.blk 2 rfl)
          go_wp2_with fail
          refine (HQ2.out _ _ _ _ (HF.out.nw0 3 rfl) (Nat.le_refl _)).mono ?_
          rintro e w16 ⟨a16, c16, rfl, hnw16, hbw16⟩
          have hzw16 : w15.heap.size + 1 ≤ w16.heap.size := by have := hbw16.size; first | omega | (simp at this; omega)
          have HF := Lib.hid (((HF.out).below hbw16).add (f := .nw (w15.heap.size + 1) w16.heap.size Ln _) ⟨hnw16.wide (by simp) (Nat.le_refl _), by omega, Nat.le_refl _⟩)
          clear hbw16 hnw16 c0 c1 c2 c3 c4 c5 c6 c7 c8
          have HF := Lib.hid (HF.out.box #[.int .i64 Fn.k, .int .i64 Fn.i, .int .i64 Fn.g, .string Fn.nm, .string Fn.fn, .int .i64 Fn.ar, .slice a16 Ln.len c16, .string Fn.bs, .int .i64 Fn.n])
          go_upto_region 17 with (fail)
          obtain ⟨w17, hw17⟩ : ∃ w17, w17 = w16.alloc (.cells #[.int .i64 Fn.k, .int .i64 Fn.i, .int .i64 Fn.g, .string Fn.nm, .string Fn.fn, .int .i64 Fn.ar, .slice a16 Ln.len c16, .string Fn.bs, .int .i64 Fn.n] 24 (0, 0)) := ⟨_, rfl⟩
          have hz17 : w16.heap.size + 1 ≤ w17.heap.size := by rw [hw17]; simp
          rw [← hw17] at HF ⊢
          clear hw17
          have HBw := Lib.hid (HF.out.base 9 rfl)
          obtain ⟨hb', aia', cia', hnine', hia'⟩ := Rd.nine HRd.out HE1.out (below_cells HBw.out (Nat.le_refl _))
          obtain ⟨d0, d1, d2, d3, d4, d5, d6, d7, d8⟩ := hnine'
          have HSm := Lib.hid fun W (hb : Below w17.heap.size w17 W) => kitSame_eq fa ia a15 aia' c15 cia' W ((HF.out.below hb).nw0 3 rfl) (((hia'.below hb (HBw.out.size)).less (Nat.zero_le _)).more (Nat.le_trans HBw.out.size hb.size))
          obtain ⟨c0, c1, c2, c3, c4, c5, c6, c7, c8, -⟩ := nine_cells (HF.out.blk 2 rfl)
          have HBc := Lib.hid (Below.refl w17.heap.size w17)
          go_region_held3 (fun w' => w'.cell? ⟨w15.heap.size, 0, none⟩ = some (.int .i64 fa.k) ∧ w'.cell? ⟨w15.heap.size, 1, none⟩ = some (.int .i64 fa.i) ∧ w'.cell? ⟨w15.heap.size, 2, none⟩ = some (.int .i64 fa.g) ∧ w'.cell? ⟨w15.heap.size, 3, none⟩ = some (.string fa.nm) ∧ w'.cell? ⟨w15.heap.size, 4, none⟩ = some (.string fa.fn) ∧ w'.cell? ⟨w15.heap.size, 5, none⟩ = some (.int .i64 fa.ar) ∧ w'.cell? ⟨w15.heap.size, 6, none⟩ = some (.slice a15 ia.len c15) ∧ w'.cell? ⟨w15.heap.size, 7, none⟩ = some (.string fa.bs) ∧ w'.cell? ⟨w15.heap.size, 8, none⟩ = some (.int .i64 fa.n) ∧ w'.cell? ⟨b, ob + k * 9, none⟩ = some (.int .i64 fa.k) ∧ w'.cell? ⟨b, ob + k * 9 + 1, none⟩ = some (.int .i64 fa.i) ∧ w'.cell? ⟨b, ob + k * 9 + 2, none⟩ = some (.int .i64 fa.g) ∧ w'.cell? ⟨b, ob + k * 9 + 3, none⟩ = some (.string fa.nm) ∧ w'.cell? ⟨b, ob + k * 9 + 4, none⟩ = some (.string fa.fn) ∧ w'.cell? ⟨b, ob + k * 9 + 5, none⟩ = some (.int .i64 fa.ar) ∧ w'.cell? ⟨b, ob + k * 9 + 6, none⟩ = some (.slice aia' ia.len cia') ∧ w'.cell? ⟨b, ob + k * 9 + 7, none⟩ = some (.string fa.bs) ∧ w'.cell? ⟨b, ob + k * 9 + 8, none⟩ = some (.int .i64 fa.n))
            (first
              | (exact ⟨c0, c1, c2, c3, c4, c5, c6, c7, c8, d0, d1, d2, d3, d4, d5, d6, d7, d8⟩)
              | (go_split_ands; refine ⟨?_, ?_, ?_, ?_, ?_, ?_, ?_, ?_, ?_, ?_, ?_, ?_, ?_, ?_, ?_, ?_, ?_, ?_⟩ <;> exact below_keep hb1 (by assumption)))
            (first
              | (go_at_call 30; ((with_reducible refine (HSm.out _ (by first | exact HBc.out | exact HBc.out.drew)).mono ?_); rintro e w1 ⟨rfl, hb1⟩); have HBc := Lib.hid (show Below w17.heap.size w17 w1 by first | exact bstep HBc.out hb1 | exact bstep HBc.out.drew hb1)))
          have HF := Lib.hid (HF.out.below HBc.out)
          clear c0 c1 c2 c3 c4 c5 c6 c7 c8 d0 d1 d2 d3 d4 d5 d6 d7 d8 HSm
          have hz18 : w17.heap.size ≤ w1.heap.size := HBc.out.size
          obtain ⟨c0, c1, c2, c3, c4, c5, c6, c7, c8, -⟩ := nine_cells (HF.out.blk 2 rfl)
          obtain ⟨d0, d1, d2, d3, d4, d5, d6, d7, d8, -⟩ := nine_cells (HF.out.blk 0 rfl)
          go_wp2_with fail
          refine (HQ3.out _ _ _ _ _ _ _ (HF.out.nw0 3 rfl) (HF.out.nw0 1 rfl) (Nat.le_refl _) (Nat.le_refl _)).mono ?_
          rintro e w19 ⟨a19, c19, rfl, hnw19, hbw19⟩
          have hzw19 : w1.heap.size + 0 ≤ w19.heap.size := by have := hbw19.size; first | omega | (simp at this; omega)
          have HF := Lib.hid (((HF.out).below hbw19).add (f := .nw (w1.heap.size + 0) w19.heap.size Lk _) ⟨hnw19.wide (by simp) (Nat.le_refl _), by omega, Nat.le_refl _⟩)
          clear hbw19 hnw19 c0 c1 c2 c3 c4 c5 c6 c7 c8 d0 d1 d2 d3 d4 d5 d6 d7 d8
          have HF := Lib.hid (HF.out.box #[.int .i64 Fk.k, .int .i64 Fk.i, .int .i64 Fk.g, .string Fk.nm, .string Fk.fn, .int .i64 Fk.ar, .slice a19 Lk.len c19, .string Fk.bs, .int .i64 Fk.n])
          obtain ⟨c0, c1, c2, c3, c4, c5, c6, c7, c8, -⟩ := nine_cells (HF.out.blk 6 rfl)
          go_wp2_with fail
          refine (kitSame_eq Fk Lk _ _ _ _ _ (HF.out.nw0 1 rfl) (HF.out.nw0 7 rfl)).mono ?_
          rintro e w20 ⟨rfl, hbw20⟩
          have HF := Lib.hid ((HF.out).below hbw20)
          have hzw20 : w19.heap.size + 1 ≤ w20.heap.size := by have := hbw20.size; first | omega | (simp at this; omega)
          clear hbw20 c0 c1 c2 c3 c4 c5 c6 c7 c8
          obtain ⟨c0, c1, c2, c3, c4, c5, c6, c7, c8, -⟩ := nine_cells (HF.out.blk 2 rfl)
          obtain ⟨d0, d1, d2, d3, d4, d5, d6, d7, d8, frd⟩ := nine_cells (HF.out.blk 6 rfl)
          go_wp2_with fail
          have HP9 := Lib.hid (HF.out.put 6 rfl (by refine ⟨?_, ?_, ?_, ?_, ?_, ?_, ?_, ?_, ?_, ?_, ?_, trivial⟩ <;> (simp only [Fct.apart]; first | omega | (intro b hb; omega))) (.int .i64 Fn.k) (.int .i64 Fn.i) (.int .i64 Fn.g) (.string Fn.nm) (.string Fn.fn) (.int .i64 Fn.ar) (.slice a16 Ln.len c16) (.string Fn.bs) (.int .i64 Fn.n))
          refine ⟨⟨k + 1, a16, c16, w15.heap.size + 1, w16.heap.size, by omega, by go_num, Lib.hid ?_, Lib.hid ⟨.inl (by omega), by simp only [size_setCell]; omega⟩⟩, by simp only [intOf]; omega⟩
          rw [← HE4.out.1, ← HE4.out.2]
          exact ⟨HP9.out.blk 0 rfl, HP9.out.nw 4 rfl, HP9.out.blk 8 rfl, HP9.out.nw 9 rfl, HP9.out.rx 10 rfl, HP9.out.base 11 rfl, trivial⟩
        · have hlt' : ¬ (k : Int) < (la.len : Int) := by omega
          have hlb : decide ((k : Int) < (la.len : Int)) = false := decide_eq_false hlt'
          have hd : la.drop k = .nil := TL.drop_len la k (by omega)
          rw [hd, show lstF .nil F2 = F2 from rfl, show lstL .nil F2 L2 = L2 from rfl] at HF
          have HD := Lib.hid hd
          clear hd
          obtain ⟨c0, c1, c2, c3, c4, c5, c6, c7, c8, -⟩ := nine_cells (HF.out.blk 0 rfl)
          obtain ⟨d0, d1, d2, d3, d4, d5, d6, d7, d8, -⟩ := nine_cells (HF.out.blk 2 rfl)
          go_wp2_with fail
          refine (kitSame_eq F2 L2 _ _ _ _ _ (HF.out.nw0 1 rfl) (HF.out.nw0 3 rfl)).mono ?_
          rintro e w20 ⟨rfl, hb20⟩
          have HF := Lib.hid (HF.out.below hb20)
          clear hb20
          go_wp2_with fail
          go_ret
          exact ⟨rfl, HF.out.base 5 rfl⟩
end Go.Proofs.Ytgbaelkoblnlhaa
