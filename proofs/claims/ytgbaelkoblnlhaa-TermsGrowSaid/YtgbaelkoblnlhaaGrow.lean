/-
  Walks: the law TermsGrow: a tuple and a list cell of two terms, and their sizes.
-/
import Derived.Test.YtgbaelkoblnlhaaGrowLaw
import Derived.Test.YtgbaelkoblnlhaaShown2
import Derived.Deep.RegionHeld3
namespace Go.Proofs.Ytgbaelkoblnlhaa
open Go.RowKit
set_option maxRecDepth 100000 in
set_option maxHeartbeats 1000000 in
theorem grow_great (f : Fd) (it : TL) (ai : Option Addr) (ci : Nat) (f' : Fd) (it' : TL) (ai' : Option Addr) (ci' : Nat) (w : World) (hs : RdS w 0 w.heap.size it (.slice ai it.len ci)) (hs' : RdS w 0 w.heap.size it' (.slice ai' it'.len ci')) (hg : leftF (.cons f it (.cons f' it' .nil)) 30000 < 0) :
    Calls Try.prog 6 #[.agg #[.int .i64 f.k, .int .i64 f.i, .int .i64 f.g, .string f.nm, .string f.fn, .int .i64 f.ar, .slice ai it.len ci, .string f.bs, .int .i64 f.n], .agg #[.int .i64 f'.k, .int .i64 f'.i, .int .i64 f'.g, .string f'.nm, .string f'.fn, .int .i64 f'.ar, .slice ai' it'.len ci', .string f'.bs, .int .i64 f'.n]] w (Yes w) := by
  have HG := Lib.hid hg
  clear hg
  have HF0 := Lib.hid (show Bk w [.rd 0 w.heap.size it (.slice ai it.len ci), .rd 0 w.heap.size it' (.slice ai' it'.len ci'), .base w] from ⟨⟨hs, Nat.le_refl _⟩, ⟨hs', Nat.le_refl _⟩, Below.refl _ _, trivial⟩)
  clear hs hs'
  go_enter Try.func6, Try.ntmps6
  go_wp2_with fail
  refine (shown_any _).mono ?_
  rintro e w1 ⟨rfl, hb1⟩
  have HF := Lib.hid (((HF0.out.box #[.int .i64 f.k, .int .i64 f.i, .int .i64 f.g, .string f.nm, .string f.fn, .int .i64 f.ar, .slice ai it.len ci, .string f.bs, .int .i64 f.n]).boxN #[.int .i64 f'.k, .int .i64 f'.i, .int .i64 f'.g, .string f'.nm, .string f'.fn, .int .i64 f'.ar, .slice ai' it'.len ci', .string f'.bs, .int .i64 f'.n] (n := w.heap.size + 1) (by simp)).below hb1)
  clear hb1 HF0
  obtain ⟨c0, c1, c2, c3, c4, c5, c6, c7, c8, -⟩ := nine_cells (HF.out.blk 1 rfl)
  obtain ⟨d0, d1, d2, d3, d4, d5, d6, d7, d8, -⟩ := nine_cells (HF.out.blk 0 rfl)
  go_wp2_with fail
  have h1 := RdS.two0 (f := f) (f' := f') (HF.out.rd0 2 rfl) (HF.out.rd0 3 rfl)
  refine (Great_yes _ _ _ _ _ _ h1 (by simp) (by decide) (by decide) HG.out).mono ?_
  rintro e w2 ⟨rfl, hb2⟩
  have HF := Lib.hid ((HF.out.alloc _).below hb2)
  clear hb2 h1 c0 c1 c2 c3 c4 c5 c6 c7 c8 d0 d1 d2 d3 d4 d5 d6 d7 d8
  go_wp2_with fail
  go_ret
  exact ⟨rfl, HF.out.base 4 rfl⟩
set_option maxRecDepth 100000 in
set_option maxHeartbeats 4000000 in
theorem grow_bad1 (f : Fd) (it : TL) (ai : Option Addr) (ci : Nat) (f' : Fd) (it' : TL) (ai' : Option Addr) (ci' : Nat) (w : World) (hs : RdS w 0 w.heap.size it (.slice ai it.len ci)) (hs' : RdS w 0 w.heap.size it' (.slice ai' it'.len ci')) (hg : 0 ≤ leftF (.cons f it (.cons f' it' .nil)) 30000) (hx : sizeF f it = 0) :
    Calls Try.prog 6 #[.agg #[.int .i64 f.k, .int .i64 f.i, .int .i64 f.g, .string f.nm, .string f.fn, .int .i64 f.ar, .slice ai it.len ci, .string f.bs, .int .i64 f.n], .agg #[.int .i64 f'.k, .int .i64 f'.i, .int .i64 f'.g, .string f'.nm, .string f'.fn, .int .i64 f'.ar, .slice ai' it'.len ci', .string f'.bs, .int .i64 f'.n]] w (Yes w) := by
  obtain ⟨ht, ht', hc, hsm⟩ := tame_two (by decide) hg
  have HT := Lib.hid ht
  have HT' := Lib.hid ht'
  have HN := Lib.hid hc
  have HSm := Lib.hid hsm
  have HG := Lib.hid hg
  have HX := Lib.hid hx
  have HTu := Lib.hid (grow_bad (f := f) (f' := f') (it := it) (it' := it') (.inl hx)).1
  have HCo := Lib.hid (grow_bad (f := f) (f' := f') (it := it) (it' := it') (.inl hx)).2
  clear hx
  clear hg ht ht' hc hsm
  have HF0 := Lib.hid (show Bk w [.rd 0 w.heap.size it (.slice ai it.len ci), .rd 0 w.heap.size it' (.slice ai' it'.len ci'), .base w] from ⟨⟨hs, Nat.le_refl _⟩, ⟨hs', Nat.le_refl _⟩, Below.refl _ _, trivial⟩)
  clear hs hs'
  go_enter Try.func6, Try.ntmps6
  go_wp2_with fail
  refine (shown_any _).mono ?_
  rintro e w1 ⟨rfl, hb1⟩
  have HF := Lib.hid (((HF0.out.box #[.int .i64 f.k, .int .i64 f.i, .int .i64 f.g, .string f.nm, .string f.fn, .int .i64 f.ar, .slice ai it.len ci, .string f.bs, .int .i64 f.n]).boxN #[.int .i64 f'.k, .int .i64 f'.i, .int .i64 f'.g, .string f'.nm, .string f'.fn, .int .i64 f'.ar, .slice ai' it'.len ci', .string f'.bs, .int .i64 f'.n] (n := w.heap.size + 1) (by simp)).below hb1)
  clear hb1 HF0
  obtain ⟨c0, c1, c2, c3, c4, c5, c6, c7, c8, -⟩ := nine_cells (HF.out.blk 1 rfl)
  obtain ⟨d0, d1, d2, d3, d4, d5, d6, d7, d8, -⟩ := nine_cells (HF.out.blk 0 rfl)
  go_wp2_with fail
  have h1 := RdS.two0 (f := f) (f' := f') (HF.out.rd0 2 rfl) (HF.out.rd0 3 rfl)
  refine (Great_no _ _ _ _ _ _ h1 (by simp) (by decide) (by decide) HG.out).mono ?_
  rintro e w2 ⟨rfl, hb2⟩
  have HF := Lib.hid ((HF.out.alloc _).below hb2)
  clear hb2 h1 c0 c1 c2 c3 c4 c5 c6 c7 c8 d0 d1 d2 d3 d4 d5 d6 d7 d8
  obtain ⟨c0, c1, c2, c3, c4, c5, c6, c7, c8, -⟩ := nine_cells (HF.out.blk 1 rfl)
  obtain ⟨d0, d1, d2, d3, d4, d5, d6, d7, d8, -⟩ := nine_cells (HF.out.blk 0 rfl)
  go_wp2_with fail
  have h1 := RdS.two0 (f := f) (f' := f') (HF.out.rd0 2 rfl) (HF.out.rd0 3 rfl)
  refine (tup_bad (.cons f it (.cons f' it' .nil)) _ _ _ _ (by have := HN.out; simp only [TL.cnt]; omega) HSm.out h1 (by simp) HTu.out (by decide)).mono ?_
  rintro e w3 ⟨ai2, ci2, rfl, hn3, hb3⟩
  have hz3 : w2.heap.size + 1 ≤ w3.heap.size := by have := hb3.size; simp at this; omega
  have HF := Lib.hid (((HF.out.alloc _).below hb3).add (f := .nw w2.heap.size w3.heap.size .nil _) ⟨hn3.wide (by simp) (Nat.le_refl _), by omega, Nat.le_refl _⟩)
  clear hb3 hn3 h1 c0 c1 c2 c3 c4 c5 c6 c7 c8 d0 d1 d2 d3 d4 d5 d6 d7 d8
  have HF := Lib.hid (HF.out.box #[.int .i64 0, .int .i64 0, .int .i64 0, .string ⟨#[]⟩, .string ⟨#[]⟩, .int .i64 0, .slice ai2 (TL.len .nil) ci2, .string ⟨#[]⟩, .int .i64 0])
  obtain ⟨c0, c1, c2, c3, c4, c5, c6, c7, c8, -⟩ := nine_cells (HF.out.blk 3 rfl)
  obtain ⟨d0, d1, d2, d3, d4, d5, d6, d7, d8, -⟩ := nine_cells (HF.out.blk 2 rfl)
  go_wp2_with fail
  refine (cons_bad f it _ f' it' _ _ _ _ _ _ HT.out (by have := HN.out; omega) HT'.out (HF.out.rd0 4 rfl) (HF.out.rd0 5 rfl) (Nat.le_refl _) (Nat.le_refl _) HCo.out (by decide)).mono ?_
  rintro e w4 ⟨ai3, ci3, rfl, hn4, hb4⟩
  have hz4 : w3.heap.size + 1 ≤ w4.heap.size := by have := hb4.size; simp at this; omega
  have HF := Lib.hid ((HF.out.below hb4).add (f := .nw w3.heap.size w4.heap.size .nil _) ⟨hn4.wide (by simp) (Nat.le_refl _), by omega, Nat.le_refl _⟩)
  clear hb4 hn4 c0 c1 c2 c3 c4 c5 c6 c7 c8 d0 d1 d2 d3 d4 d5 d6 d7 d8
  have HF := Lib.hid (HF.out.box #[.int .i64 0, .int .i64 0, .int .i64 0, .string ⟨#[]⟩, .string ⟨#[]⟩, .int .i64 0, .slice ai3 (TL.len .nil) ci3, .string ⟨#[]⟩, .int .i64 0])
  go_upto_region 7 with (fail)
  obtain ⟨W4, hW4⟩ : ∃ W4, W4 = w4.alloc (.cells #[.int .i64 0, .int .i64 0, .int .i64 0, .string ⟨#[]⟩, .string ⟨#[]⟩, .int .i64 0, .slice ai3 (TL.len .nil) ci3, .string ⟨#[]⟩, .int .i64 0] 24 (0, 0)) := ⟨_, rfl⟩
  rw [← hW4] at HF ⊢
  clear hW4
  obtain ⟨c0, c1, c2, c3, c4, c5, c6, c7, c8, -⟩ := nine_cells (HF.out.blk 5 rfl)
  obtain ⟨d0, d1, d2, d3, d4, d5, d6, d7, d8, -⟩ := nine_cells (HF.out.blk 4 rfl)
  have HSa := Lib.hid fun W (hb : Below W4.heap.size W4 W) => ((pSize_any f it _ W 0 W4.heap.size HT.out ((HF.out.rd0 6 rfl).below hb (Nat.le_refl _)) hb.size).mono fun e w' h => (show e = .returned (.int .i64 0) ∧ Below W.heap.size W w' from ⟨h.1.trans (by rw [HX.out]), h.2⟩))
  have HSb := Lib.hid fun W (hb : Below W4.heap.size W4 W) => (pSize_any f' it' _ W 0 W4.heap.size HT'.out ((HF.out.rd0 7 rfl).below hb (Nat.le_refl _)) hb.size)
  have HBc := Lib.hid (Below.refl W4.heap.size W4)
  go_region_held3 (fun w' => w'.cell? ⟨w.heap.size, 0, none⟩ = some (.int .i64 f.k) ∧ w'.cell? ⟨w.heap.size, 1, none⟩ = some (.int .i64 f.i) ∧ w'.cell? ⟨w.heap.size, 2, none⟩ = some (.int .i64 f.g) ∧ w'.cell? ⟨w.heap.size, 3, none⟩ = some (.string f.nm) ∧ w'.cell? ⟨w.heap.size, 4, none⟩ = some (.string f.fn) ∧ w'.cell? ⟨w.heap.size, 5, none⟩ = some (.int .i64 f.ar) ∧ w'.cell? ⟨w.heap.size, 6, none⟩ = some (.slice ai it.len ci) ∧ w'.cell? ⟨w.heap.size, 7, none⟩ = some (.string f.bs) ∧ w'.cell? ⟨w.heap.size, 8, none⟩ = some (.int .i64 f.n) ∧ w'.cell? ⟨w.heap.size + 1, 0, none⟩ = some (.int .i64 f'.k) ∧ w'.cell? ⟨w.heap.size + 1, 1, none⟩ = some (.int .i64 f'.i) ∧ w'.cell? ⟨w.heap.size + 1, 2, none⟩ = some (.int .i64 f'.g) ∧ w'.cell? ⟨w.heap.size + 1, 3, none⟩ = some (.string f'.nm) ∧ w'.cell? ⟨w.heap.size + 1, 4, none⟩ = some (.string f'.fn) ∧ w'.cell? ⟨w.heap.size + 1, 5, none⟩ = some (.int .i64 f'.ar) ∧ w'.cell? ⟨w.heap.size + 1, 6, none⟩ = some (.slice ai' it'.len ci') ∧ w'.cell? ⟨w.heap.size + 1, 7, none⟩ = some (.string f'.bs) ∧ w'.cell? ⟨w.heap.size + 1, 8, none⟩ = some (.int .i64 f'.n))
    (first
      | (exact ⟨c0, c1, c2, c3, c4, c5, c6, c7, c8, d0, d1, d2, d3, d4, d5, d6, d7, d8⟩)
      | (go_split_ands; refine ⟨?_, ?_, ?_, ?_, ?_, ?_, ?_, ?_, ?_, ?_, ?_, ?_, ?_, ?_, ?_, ?_, ?_, ?_⟩ <;> exact below_keep hb1 (by assumption)))
    (first
      | (go_at_call 23; ((with_reducible refine (HSa.out _ (by first | exact HBc.out | exact HBc.out.drew)).mono ?_); rintro e w1 ⟨rfl, hb1⟩); have HBc := Lib.hid (show Below W4.heap.size W4 w1 by first | exact bstep HBc.out hb1 | exact bstep HBc.out.drew hb1))
      | (go_at_call 23; ((with_reducible refine (HSb.out _ (by first | exact HBc.out | exact HBc.out.drew)).mono ?_); rintro e w1 ⟨rfl, hb1⟩); have HBc := Lib.hid (show Below W4.heap.size W4 w1 by first | exact bstep HBc.out hb1 | exact bstep HBc.out.drew hb1)))
  have HF := Lib.hid (HF.out.below HBc.out)
  go_wp2_with fail
  go_ret
  exact ⟨rfl, HF.out.base 8 rfl⟩
set_option maxRecDepth 100000 in
set_option maxHeartbeats 4000000 in
theorem grow_bad2 (f : Fd) (it : TL) (ai : Option Addr) (ci : Nat) (f' : Fd) (it' : TL) (ai' : Option Addr) (ci' : Nat) (w : World) (hs : RdS w 0 w.heap.size it (.slice ai it.len ci)) (hs' : RdS w 0 w.heap.size it' (.slice ai' it'.len ci')) (hg : 0 ≤ leftF (.cons f it (.cons f' it' .nil)) 30000) (x : Int) (hxe : sizeF f it = x) (hx : 0 < x) (hy : sizeF f' it' = 0) :
    Calls Try.prog 6 #[.agg #[.int .i64 f.k, .int .i64 f.i, .int .i64 f.g, .string f.nm, .string f.fn, .int .i64 f.ar, .slice ai it.len ci, .string f.bs, .int .i64 f.n], .agg #[.int .i64 f'.k, .int .i64 f'.i, .int .i64 f'.g, .string f'.nm, .string f'.fn, .int .i64 f'.ar, .slice ai' it'.len ci', .string f'.bs, .int .i64 f'.n]] w (Yes w) := by
  obtain ⟨ht, ht', hc, hsm⟩ := tame_two (by decide) hg
  have HT := Lib.hid ht
  have HT' := Lib.hid ht'
  have HN := Lib.hid hc
  have HSm := Lib.hid hsm
  have HG := Lib.hid hg
  have HX := Lib.hid hxe
  have HY := Lib.hid hy
  have HTu := Lib.hid (grow_bad (f := f) (f' := f') (it := it) (it' := it') (.inr hy)).1
  have HCo := Lib.hid (grow_bad (f := f) (f' := f') (it := it) (it' := it') (.inr hy)).2
  have hx0 : (x == 0) = false := by simp; omega
  clear hy hxe
  clear hg ht ht' hc hsm
  have HF0 := Lib.hid (show Bk w [.rd 0 w.heap.size it (.slice ai it.len ci), .rd 0 w.heap.size it' (.slice ai' it'.len ci'), .base w] from ⟨⟨hs, Nat.le_refl _⟩, ⟨hs', Nat.le_refl _⟩, Below.refl _ _, trivial⟩)
  clear hs hs'
  go_enter Try.func6, Try.ntmps6
  go_wp2_with fail
  refine (shown_any _).mono ?_
  rintro e w1 ⟨rfl, hb1⟩
  have HF := Lib.hid (((HF0.out.box #[.int .i64 f.k, .int .i64 f.i, .int .i64 f.g, .string f.nm, .string f.fn, .int .i64 f.ar, .slice ai it.len ci, .string f.bs, .int .i64 f.n]).boxN #[.int .i64 f'.k, .int .i64 f'.i, .int .i64 f'.g, .string f'.nm, .string f'.fn, .int .i64 f'.ar, .slice ai' it'.len ci', .string f'.bs, .int .i64 f'.n] (n := w.heap.size + 1) (by simp)).below hb1)
  clear hb1 HF0
  obtain ⟨c0, c1, c2, c3, c4, c5, c6, c7, c8, -⟩ := nine_cells (HF.out.blk 1 rfl)
  obtain ⟨d0, d1, d2, d3, d4, d5, d6, d7, d8, -⟩ := nine_cells (HF.out.blk 0 rfl)
  go_wp2_with fail
  have h1 := RdS.two0 (f := f) (f' := f') (HF.out.rd0 2 rfl) (HF.out.rd0 3 rfl)
  refine (Great_no _ _ _ _ _ _ h1 (by simp) (by decide) (by decide) HG.out).mono ?_
  rintro e w2 ⟨rfl, hb2⟩
  have HF := Lib.hid ((HF.out.alloc _).below hb2)
  clear hb2 h1 c0 c1 c2 c3 c4 c5 c6 c7 c8 d0 d1 d2 d3 d4 d5 d6 d7 d8
  obtain ⟨c0, c1, c2, c3, c4, c5, c6, c7, c8, -⟩ := nine_cells (HF.out.blk 1 rfl)
  obtain ⟨d0, d1, d2, d3, d4, d5, d6, d7, d8, -⟩ := nine_cells (HF.out.blk 0 rfl)
  go_wp2_with fail
  have h1 := RdS.two0 (f := f) (f' := f') (HF.out.rd0 2 rfl) (HF.out.rd0 3 rfl)
  refine (tup_bad (.cons f it (.cons f' it' .nil)) _ _ _ _ (by have := HN.out; simp only [TL.cnt]; omega) HSm.out h1 (by simp) HTu.out (by decide)).mono ?_
  rintro e w3 ⟨ai2, ci2, rfl, hn3, hb3⟩
  have hz3 : w2.heap.size + 1 ≤ w3.heap.size := by have := hb3.size; simp at this; omega
  have HF := Lib.hid (((HF.out.alloc _).below hb3).add (f := .nw w2.heap.size w3.heap.size .nil _) ⟨hn3.wide (by simp) (Nat.le_refl _), by omega, Nat.le_refl _⟩)
  clear hb3 hn3 h1 c0 c1 c2 c3 c4 c5 c6 c7 c8 d0 d1 d2 d3 d4 d5 d6 d7 d8
  have HF := Lib.hid (HF.out.box #[.int .i64 0, .int .i64 0, .int .i64 0, .string ⟨#[]⟩, .string ⟨#[]⟩, .int .i64 0, .slice ai2 (TL.len .nil) ci2, .string ⟨#[]⟩, .int .i64 0])
  obtain ⟨c0, c1, c2, c3, c4, c5, c6, c7, c8, -⟩ := nine_cells (HF.out.blk 3 rfl)
  obtain ⟨d0, d1, d2, d3, d4, d5, d6, d7, d8, -⟩ := nine_cells (HF.out.blk 2 rfl)
  go_wp2_with fail
  refine (cons_bad f it _ f' it' _ _ _ _ _ _ HT.out (by have := HN.out; omega) HT'.out (HF.out.rd0 4 rfl) (HF.out.rd0 5 rfl) (Nat.le_refl _) (Nat.le_refl _) HCo.out (by decide)).mono ?_
  rintro e w4 ⟨ai3, ci3, rfl, hn4, hb4⟩
  have hz4 : w3.heap.size + 1 ≤ w4.heap.size := by have := hb4.size; simp at this; omega
  have HF := Lib.hid ((HF.out.below hb4).add (f := .nw w3.heap.size w4.heap.size .nil _) ⟨hn4.wide (by simp) (Nat.le_refl _), by omega, Nat.le_refl _⟩)
  clear hb4 hn4 c0 c1 c2 c3 c4 c5 c6 c7 c8 d0 d1 d2 d3 d4 d5 d6 d7 d8
  have HF := Lib.hid (HF.out.box #[.int .i64 0, .int .i64 0, .int .i64 0, .string ⟨#[]⟩, .string ⟨#[]⟩, .int .i64 0, .slice ai3 (TL.len .nil) ci3, .string ⟨#[]⟩, .int .i64 0])
  go_upto_region 7 with (fail)
  obtain ⟨W4, hW4⟩ : ∃ W4, W4 = w4.alloc (.cells #[.int .i64 0, .int .i64 0, .int .i64 0, .string ⟨#[]⟩, .string ⟨#[]⟩, .int .i64 0, .slice ai3 (TL.len .nil) ci3, .string ⟨#[]⟩, .int .i64 0] 24 (0, 0)) := ⟨_, rfl⟩
  rw [← hW4] at HF ⊢
  clear hW4
  obtain ⟨c0, c1, c2, c3, c4, c5, c6, c7, c8, -⟩ := nine_cells (HF.out.blk 5 rfl)
  obtain ⟨d0, d1, d2, d3, d4, d5, d6, d7, d8, -⟩ := nine_cells (HF.out.blk 4 rfl)
  have HSa := Lib.hid fun W (hb : Below W4.heap.size W4 W) => ((pSize_any f it _ W 0 W4.heap.size HT.out ((HF.out.rd0 6 rfl).below hb (Nat.le_refl _)) hb.size).mono fun e w' h => (show e = .returned (.int .i64 x) ∧ Below W.heap.size W w' from ⟨h.1.trans (by rw [HX.out]), h.2⟩))
  have HSb := Lib.hid fun W (hb : Below W4.heap.size W4 W) => ((pSize_any f' it' _ W 0 W4.heap.size HT'.out ((HF.out.rd0 7 rfl).below hb (Nat.le_refl _)) hb.size).mono fun e w' h => (show e = .returned (.int .i64 0) ∧ Below W.heap.size W w' from ⟨h.1.trans (by rw [HY.out]), h.2⟩))
  have HBc := Lib.hid (Below.refl W4.heap.size W4)
  go_region_held3 (fun w' => w'.cell? ⟨w.heap.size, 0, none⟩ = some (.int .i64 f.k) ∧ w'.cell? ⟨w.heap.size, 1, none⟩ = some (.int .i64 f.i) ∧ w'.cell? ⟨w.heap.size, 2, none⟩ = some (.int .i64 f.g) ∧ w'.cell? ⟨w.heap.size, 3, none⟩ = some (.string f.nm) ∧ w'.cell? ⟨w.heap.size, 4, none⟩ = some (.string f.fn) ∧ w'.cell? ⟨w.heap.size, 5, none⟩ = some (.int .i64 f.ar) ∧ w'.cell? ⟨w.heap.size, 6, none⟩ = some (.slice ai it.len ci) ∧ w'.cell? ⟨w.heap.size, 7, none⟩ = some (.string f.bs) ∧ w'.cell? ⟨w.heap.size, 8, none⟩ = some (.int .i64 f.n) ∧ w'.cell? ⟨w.heap.size + 1, 0, none⟩ = some (.int .i64 f'.k) ∧ w'.cell? ⟨w.heap.size + 1, 1, none⟩ = some (.int .i64 f'.i) ∧ w'.cell? ⟨w.heap.size + 1, 2, none⟩ = some (.int .i64 f'.g) ∧ w'.cell? ⟨w.heap.size + 1, 3, none⟩ = some (.string f'.nm) ∧ w'.cell? ⟨w.heap.size + 1, 4, none⟩ = some (.string f'.fn) ∧ w'.cell? ⟨w.heap.size + 1, 5, none⟩ = some (.int .i64 f'.ar) ∧ w'.cell? ⟨w.heap.size + 1, 6, none⟩ = some (.slice ai' it'.len ci') ∧ w'.cell? ⟨w.heap.size + 1, 7, none⟩ = some (.string f'.bs) ∧ w'.cell? ⟨w.heap.size + 1, 8, none⟩ = some (.int .i64 f'.n))
    (first
      | (exact ⟨c0, c1, c2, c3, c4, c5, c6, c7, c8, d0, d1, d2, d3, d4, d5, d6, d7, d8⟩)
      | (go_split_ands; refine ⟨?_, ?_, ?_, ?_, ?_, ?_, ?_, ?_, ?_, ?_, ?_, ?_, ?_, ?_, ?_, ?_, ?_, ?_⟩ <;> exact below_keep hb1 (by assumption)))
    (first
      | (go_at_call 23; ((with_reducible refine (HSa.out _ (by first | exact HBc.out | exact HBc.out.drew)).mono ?_); rintro e w1 ⟨rfl, hb1⟩); have HBc := Lib.hid (show Below W4.heap.size W4 w1 by first | exact bstep HBc.out hb1 | exact bstep HBc.out.drew hb1))
      | (go_at_call 23; ((with_reducible refine (HSb.out _ (by first | exact HBc.out | exact HBc.out.drew)).mono ?_); rintro e w1 ⟨rfl, hb1⟩); have HBc := Lib.hid (show Below W4.heap.size W4 w1 by first | exact bstep HBc.out hb1 | exact bstep HBc.out.drew hb1)))
  have HF := Lib.hid (HF.out.below HBc.out)
  go_wp2_with fail
  go_ret
  exact ⟨rfl, HF.out.base 8 rfl⟩
set_option maxRecDepth 100000 in
set_option maxHeartbeats 4000000 in
theorem grow_big (f : Fd) (it : TL) (ai : Option Addr) (ci : Nat) (f' : Fd) (it' : TL) (ai' : Option Addr) (ci' : Nat) (w : World) (hs : RdS w 0 w.heap.size it (.slice ai it.len ci)) (hs' : RdS w 0 w.heap.size it' (.slice ai' it'.len ci')) (hg : 0 ≤ leftF (.cons f it (.cons f' it' .nil)) 30000) (x y : Int) (hxe : sizeF f it = x) (hye : sizeF f' it' = y) (hx : 0 < x) (hy : 0 < y) (hx2 : x ≤ 2001) (hy2 : y ≤ 2001) (hxy : 2000 < x + y + 1) :
    Calls Try.prog 6 #[.agg #[.int .i64 f.k, .int .i64 f.i, .int .i64 f.g, .string f.nm, .string f.fn, .int .i64 f.ar, .slice ai it.len ci, .string f.bs, .int .i64 f.n], .agg #[.int .i64 f'.k, .int .i64 f'.i, .int .i64 f'.g, .string f'.nm, .string f'.fn, .int .i64 f'.ar, .slice ai' it'.len ci', .string f'.bs, .int .i64 f'.n]] w (Yes w) := by
  obtain ⟨ht, ht', hc, hsm⟩ := tame_two (by decide) hg
  have HT := Lib.hid ht
  have HT' := Lib.hid ht'
  have HN := Lib.hid hc
  have HSm := Lib.hid hsm
  have HG := Lib.hid hg
  have HX := Lib.hid hxe
  have HY := Lib.hid hye
  have HTu := Lib.hid (show tupC (.cons f it (.cons f' it' .nil)) = 3 by rw [(grow_good (f := f) (f' := f') (it := it) (it' := it') (by omega) (by omega)).2.2.1, if_pos (by omega)])
  have HCo := Lib.hid (show lstC (.cons f it .nil) f' it' = 3 by rw [(grow_good (f := f) (f' := f') (it := it) (it' := it') (by omega) (by omega)).2.2.2, if_pos (by omega)])
  have hx0 : (x == 0) = false := by simp; omega
  have hy0 : (y == 0) = false := by simp; omega
  clear hxe hye
  clear hg ht ht' hc hsm
  have HF0 := Lib.hid (show Bk w [.rd 0 w.heap.size it (.slice ai it.len ci), .rd 0 w.heap.size it' (.slice ai' it'.len ci'), .base w] from ⟨⟨hs, Nat.le_refl _⟩, ⟨hs', Nat.le_refl _⟩, Below.refl _ _, trivial⟩)
  clear hs hs'
  go_enter Try.func6, Try.ntmps6
  go_wp2_with fail
  refine (shown_any _).mono ?_
  rintro e w1 ⟨rfl, hb1⟩
  have HF := Lib.hid (((HF0.out.box #[.int .i64 f.k, .int .i64 f.i, .int .i64 f.g, .string f.nm, .string f.fn, .int .i64 f.ar, .slice ai it.len ci, .string f.bs, .int .i64 f.n]).boxN #[.int .i64 f'.k, .int .i64 f'.i, .int .i64 f'.g, .string f'.nm, .string f'.fn, .int .i64 f'.ar, .slice ai' it'.len ci', .string f'.bs, .int .i64 f'.n] (n := w.heap.size + 1) (by simp)).below hb1)
  clear hb1 HF0
  obtain ⟨c0, c1, c2, c3, c4, c5, c6, c7, c8, -⟩ := nine_cells (HF.out.blk 1 rfl)
  obtain ⟨d0, d1, d2, d3, d4, d5, d6, d7, d8, -⟩ := nine_cells (HF.out.blk 0 rfl)
  go_wp2_with fail
  have h1 := RdS.two0 (f := f) (f' := f') (HF.out.rd0 2 rfl) (HF.out.rd0 3 rfl)
  refine (Great_no _ _ _ _ _ _ h1 (by simp) (by decide) (by decide) HG.out).mono ?_
  rintro e w2 ⟨rfl, hb2⟩
  have HF := Lib.hid ((HF.out.alloc _).below hb2)
  clear hb2 h1 c0 c1 c2 c3 c4 c5 c6 c7 c8 d0 d1 d2 d3 d4 d5 d6 d7 d8
  obtain ⟨c0, c1, c2, c3, c4, c5, c6, c7, c8, -⟩ := nine_cells (HF.out.blk 1 rfl)
  obtain ⟨d0, d1, d2, d3, d4, d5, d6, d7, d8, -⟩ := nine_cells (HF.out.blk 0 rfl)
  go_wp2_with fail
  have h1 := RdS.two0 (f := f) (f' := f') (HF.out.rd0 2 rfl) (HF.out.rd0 3 rfl)
  refine (tup_bad (.cons f it (.cons f' it' .nil)) _ _ _ _ (by have := HN.out; simp only [TL.cnt]; omega) HSm.out h1 (by simp) HTu.out (by decide)).mono ?_
  rintro e w3 ⟨ai2, ci2, rfl, hn3, hb3⟩
  have hz3 : w2.heap.size + 1 ≤ w3.heap.size := by have := hb3.size; simp at this; omega
  have HF := Lib.hid (((HF.out.alloc _).below hb3).add (f := .nw w2.heap.size w3.heap.size .nil _) ⟨hn3.wide (by simp) (Nat.le_refl _), by omega, Nat.le_refl _⟩)
  clear hb3 hn3 h1 c0 c1 c2 c3 c4 c5 c6 c7 c8 d0 d1 d2 d3 d4 d5 d6 d7 d8
  have HF := Lib.hid (HF.out.box #[.int .i64 0, .int .i64 0, .int .i64 0, .string ⟨#[]⟩, .string ⟨#[]⟩, .int .i64 0, .slice ai2 (TL.len .nil) ci2, .string ⟨#[]⟩, .int .i64 0])
  obtain ⟨c0, c1, c2, c3, c4, c5, c6, c7, c8, -⟩ := nine_cells (HF.out.blk 3 rfl)
  obtain ⟨d0, d1, d2, d3, d4, d5, d6, d7, d8, -⟩ := nine_cells (HF.out.blk 2 rfl)
  go_wp2_with fail
  refine (cons_bad f it _ f' it' _ _ _ _ _ _ HT.out (by have := HN.out; omega) HT'.out (HF.out.rd0 4 rfl) (HF.out.rd0 5 rfl) (Nat.le_refl _) (Nat.le_refl _) HCo.out (by decide)).mono ?_
  rintro e w4 ⟨ai3, ci3, rfl, hn4, hb4⟩
  have hz4 : w3.heap.size + 1 ≤ w4.heap.size := by have := hb4.size; simp at this; omega
  have HF := Lib.hid ((HF.out.below hb4).add (f := .nw w3.heap.size w4.heap.size .nil _) ⟨hn4.wide (by simp) (Nat.le_refl _), by omega, Nat.le_refl _⟩)
  clear hb4 hn4 c0 c1 c2 c3 c4 c5 c6 c7 c8 d0 d1 d2 d3 d4 d5 d6 d7 d8
  have HF := Lib.hid (HF.out.box #[.int .i64 0, .int .i64 0, .int .i64 0, .string ⟨#[]⟩, .string ⟨#[]⟩, .int .i64 0, .slice ai3 (TL.len .nil) ci3, .string ⟨#[]⟩, .int .i64 0])
  go_upto_region 7 with (fail)
  obtain ⟨W4, hW4⟩ : ∃ W4, W4 = w4.alloc (.cells #[.int .i64 0, .int .i64 0, .int .i64 0, .string ⟨#[]⟩, .string ⟨#[]⟩, .int .i64 0, .slice ai3 (TL.len .nil) ci3, .string ⟨#[]⟩, .int .i64 0] 24 (0, 0)) := ⟨_, rfl⟩
  rw [← hW4] at HF ⊢
  clear hW4
  obtain ⟨c0, c1, c2, c3, c4, c5, c6, c7, c8, -⟩ := nine_cells (HF.out.blk 5 rfl)
  obtain ⟨d0, d1, d2, d3, d4, d5, d6, d7, d8, -⟩ := nine_cells (HF.out.blk 4 rfl)
  have HSa := Lib.hid fun W (hb : Below W4.heap.size W4 W) => ((pSize_any f it _ W 0 W4.heap.size HT.out ((HF.out.rd0 6 rfl).below hb (Nat.le_refl _)) hb.size).mono fun e w' h => (show e = .returned (.int .i64 x) ∧ Below W.heap.size W w' from ⟨h.1.trans (by rw [HX.out]), h.2⟩))
  have HSb := Lib.hid fun W (hb : Below W4.heap.size W4 W) => ((pSize_any f' it' _ W 0 W4.heap.size HT'.out ((HF.out.rd0 7 rfl).below hb (Nat.le_refl _)) hb.size).mono fun e w' h => (show e = .returned (.int .i64 y) ∧ Below W.heap.size W w' from ⟨h.1.trans (by rw [HY.out]), h.2⟩))
  have HBc := Lib.hid (Below.refl W4.heap.size W4)
  go_region_held3 (fun w' => w'.cell? ⟨w.heap.size, 0, none⟩ = some (.int .i64 f.k) ∧ w'.cell? ⟨w.heap.size, 1, none⟩ = some (.int .i64 f.i) ∧ w'.cell? ⟨w.heap.size, 2, none⟩ = some (.int .i64 f.g) ∧ w'.cell? ⟨w.heap.size, 3, none⟩ = some (.string f.nm) ∧ w'.cell? ⟨w.heap.size, 4, none⟩ = some (.string f.fn) ∧ w'.cell? ⟨w.heap.size, 5, none⟩ = some (.int .i64 f.ar) ∧ w'.cell? ⟨w.heap.size, 6, none⟩ = some (.slice ai it.len ci) ∧ w'.cell? ⟨w.heap.size, 7, none⟩ = some (.string f.bs) ∧ w'.cell? ⟨w.heap.size, 8, none⟩ = some (.int .i64 f.n) ∧ w'.cell? ⟨w.heap.size + 1, 0, none⟩ = some (.int .i64 f'.k) ∧ w'.cell? ⟨w.heap.size + 1, 1, none⟩ = some (.int .i64 f'.i) ∧ w'.cell? ⟨w.heap.size + 1, 2, none⟩ = some (.int .i64 f'.g) ∧ w'.cell? ⟨w.heap.size + 1, 3, none⟩ = some (.string f'.nm) ∧ w'.cell? ⟨w.heap.size + 1, 4, none⟩ = some (.string f'.fn) ∧ w'.cell? ⟨w.heap.size + 1, 5, none⟩ = some (.int .i64 f'.ar) ∧ w'.cell? ⟨w.heap.size + 1, 6, none⟩ = some (.slice ai' it'.len ci') ∧ w'.cell? ⟨w.heap.size + 1, 7, none⟩ = some (.string f'.bs) ∧ w'.cell? ⟨w.heap.size + 1, 8, none⟩ = some (.int .i64 f'.n))
    (first
      | (exact ⟨c0, c1, c2, c3, c4, c5, c6, c7, c8, d0, d1, d2, d3, d4, d5, d6, d7, d8⟩)
      | (go_split_ands; refine ⟨?_, ?_, ?_, ?_, ?_, ?_, ?_, ?_, ?_, ?_, ?_, ?_, ?_, ?_, ?_, ?_, ?_, ?_⟩ <;> exact below_keep hb1 (by assumption)))
    (first
      | (go_at_call 23; ((with_reducible refine (HSa.out _ (by first | exact HBc.out | exact HBc.out.drew)).mono ?_); rintro e w1 ⟨rfl, hb1⟩); have HBc := Lib.hid (show Below W4.heap.size W4 w1 by first | exact bstep HBc.out hb1 | exact bstep HBc.out.drew hb1))
      | (go_at_call 23; ((with_reducible refine (HSb.out _ (by first | exact HBc.out | exact HBc.out.drew)).mono ?_); rintro e w1 ⟨rfl, hb1⟩); have HBc := Lib.hid (show Below W4.heap.size W4 w1 by first | exact bstep HBc.out hb1 | exact bstep HBc.out.drew hb1)))
  have HF := Lib.hid (HF.out.below HBc.out)
  go_wp2_with fail
  go_ret
  exact ⟨rfl, HF.out.base 8 rfl⟩
set_option maxRecDepth 100000 in
set_option maxHeartbeats 4000000 in
theorem grow_ok (f : Fd) (it : TL) (ai : Option Addr) (ci : Nat) (f' : Fd) (it' : TL) (ai' : Option Addr) (ci' : Nat) (w : World) (hs : RdS w 0 w.heap.size it (.slice ai it.len ci)) (hs' : RdS w 0 w.heap.size it' (.slice ai' it'.len ci')) (hg : 0 ≤ leftF (.cons f it (.cons f' it' .nil)) 30000) (x y : Int) (hxe : sizeF f it = x) (hye : sizeF f' it' = y) (hx : 0 < x) (hy : 0 < y) (hx2 : x ≤ 2001) (hy2 : y ≤ 2001) (hxy : x + y + 1 ≤ 2000) :
    Calls Try.prog 6 #[.agg #[.int .i64 f.k, .int .i64 f.i, .int .i64 f.g, .string f.nm, .string f.fn, .int .i64 f.ar, .slice ai it.len ci, .string f.bs, .int .i64 f.n], .agg #[.int .i64 f'.k, .int .i64 f'.i, .int .i64 f'.g, .string f'.nm, .string f'.fn, .int .i64 f'.ar, .slice ai' it'.len ci', .string f'.bs, .int .i64 f'.n]] w (Yes w) := by
  obtain ⟨ht, ht', hc, hsm⟩ := tame_two (by decide) hg
  have HT := Lib.hid ht
  have HT' := Lib.hid ht'
  have HN := Lib.hid hc
  have HSm := Lib.hid hsm
  have HG := Lib.hid hg
  have HX := Lib.hid hxe
  have HY := Lib.hid hye
  have HTu := Lib.hid (show tupC (.cons f it (.cons f' it' .nil)) = 0 by rw [(grow_good (f := f) (f' := f') (it := it) (it' := it') (by omega) (by omega)).2.2.1, if_neg (by omega)])
  have HCo := Lib.hid (show lstC (.cons f it .nil) f' it' = 0 by rw [(grow_good (f := f) (f' := f') (it := it) (it' := it') (by omega) (by omega)).2.2.2, if_neg (by omega)])
  obtain ⟨g1, g2, g3, g4⟩ := grow_sizes (f := f) (f' := f') (it := it) (it' := it') (by omega) (by omega) (by omega)
  have H1 := Lib.hid (show sizeF (kF 7) (.cons f it (.cons f' it' .nil)) = x + y + 1 by rw [g1, hxe, hye])
  have H2 := Lib.hid g2
  have H3 := Lib.hid (show sizeF (kF 9) ((TL.cons f it .nil).app (tailL f' it')) = x + y + 1 by rw [g3, hxe, hye])
  have H4 := Lib.hid g4
  have HM := Lib.hid (tame_made hsm (by omega))
  have hx0 : (x == 0) = false := by simp; omega
  have hy0 : (y == 0) = false := by simp; omega
  clear hxe hye g1 g2 g3 g4
  clear hg ht ht' hc hsm
  have HF0 := Lib.hid (show Bk w [.rd 0 w.heap.size it (.slice ai it.len ci), .rd 0 w.heap.size it' (.slice ai' it'.len ci'), .base w] from ⟨⟨hs, Nat.le_refl _⟩, ⟨hs', Nat.le_refl _⟩, Below.refl _ _, trivial⟩)
  clear hs hs'
  go_enter Try.func6, Try.ntmps6
  go_wp2_with fail
  refine (shown_any _).mono ?_
  rintro e w1 ⟨rfl, hb1⟩
  have HF := Lib.hid (((HF0.out.box #[.int .i64 f.k, .int .i64 f.i, .int .i64 f.g, .string f.nm, .string f.fn, .int .i64 f.ar, .slice ai it.len ci, .string f.bs, .int .i64 f.n]).boxN #[.int .i64 f'.k, .int .i64 f'.i, .int .i64 f'.g, .string f'.nm, .string f'.fn, .int .i64 f'.ar, .slice ai' it'.len ci', .string f'.bs, .int .i64 f'.n] (n := w.heap.size + 1) (by simp)).below hb1)
  clear hb1 HF0
  obtain ⟨c0, c1, c2, c3, c4, c5, c6, c7, c8, -⟩ := nine_cells (HF.out.blk 1 rfl)
  obtain ⟨d0, d1, d2, d3, d4, d5, d6, d7, d8, -⟩ := nine_cells (HF.out.blk 0 rfl)
  go_wp2_with fail
  have h1 := RdS.two0 (f := f) (f' := f') (HF.out.rd0 2 rfl) (HF.out.rd0 3 rfl)
  refine (Great_no _ _ _ _ _ _ h1 (by simp) (by decide) (by decide) HG.out).mono ?_
  rintro e w2 ⟨rfl, hb2⟩
  have HF := Lib.hid ((HF.out.alloc _).below hb2)
  clear hb2 h1 c0 c1 c2 c3 c4 c5 c6 c7 c8 d0 d1 d2 d3 d4 d5 d6 d7 d8
  obtain ⟨c0, c1, c2, c3, c4, c5, c6, c7, c8, -⟩ := nine_cells (HF.out.blk 1 rfl)
  obtain ⟨d0, d1, d2, d3, d4, d5, d6, d7, d8, -⟩ := nine_cells (HF.out.blk 0 rfl)
  go_wp2_with fail
  have h1 := RdS.two0 (f := f) (f' := f') (HF.out.rd0 2 rfl) (HF.out.rd0 3 rfl)
  refine (tup_ok (.cons f it (.cons f' it' .nil)) _ _ _ _ (by have := HN.out; simp only [TL.cnt]; omega) HSm.out h1 (by simp) HTu.out).mono ?_
  rintro e w3 ⟨ai2, ci2, rfl, hn3, hb3⟩
  have hz3 : w2.heap.size + 1 ≤ w3.heap.size := by have := hb3.size; simp at this; omega
  have HF := Lib.hid (((HF.out.alloc _).below hb3).add (f := .nw w2.heap.size w3.heap.size (.cons f it (.cons f' it' .nil)) _) ⟨hn3.wide (by simp) (Nat.le_refl _), by omega, Nat.le_refl _⟩)
  clear hb3 hn3 h1 c0 c1 c2 c3 c4 c5 c6 c7 c8 d0 d1 d2 d3 d4 d5 d6 d7 d8
  have HF := Lib.hid (HF.out.box #[.int .i64 7, .int .i64 0, .int .i64 0, .string ⟨#[]⟩, .string ⟨#[]⟩, .int .i64 0, .slice ai2 (TL.len (.cons f it (.cons f' it' .nil))) ci2, .string ⟨#[]⟩, .int .i64 0])
  obtain ⟨c0, c1, c2, c3, c4, c5, c6, c7, c8, -⟩ := nine_cells (HF.out.blk 3 rfl)
  obtain ⟨d0, d1, d2, d3, d4, d5, d6, d7, d8, -⟩ := nine_cells (HF.out.blk 2 rfl)
  go_wp2_with fail
  refine (cons_ok f it _ f' it' _ _ _ _ _ _ HT.out (by have := HN.out; omega) HT'.out (HF.out.rd0 4 rfl) (HF.out.rd0 5 rfl) (Nat.le_refl _) (Nat.le_refl _) HCo.out).mono ?_
  rintro e w4 ⟨ai3, ci3, rfl, hn4, hb4⟩
  have hz4 : w3.heap.size + 1 ≤ w4.heap.size := by have := hb4.size; simp at this; omega
  have HF := Lib.hid ((HF.out.below hb4).add (f := .nw w3.heap.size w4.heap.size ((TL.cons f it .nil).app (tailL f' it')) _) ⟨hn4.wide (by simp) (Nat.le_refl _), by omega, Nat.le_refl _⟩)
  clear hb4 hn4 c0 c1 c2 c3 c4 c5 c6 c7 c8 d0 d1 d2 d3 d4 d5 d6 d7 d8
  have HF := Lib.hid (HF.out.box #[.int .i64 9, .int .i64 0, .int .i64 0, .string ⟨#[]⟩, .string ⟨#[]⟩, .int .i64 0, .slice ai3 (TL.len ((TL.cons f it .nil).app (tailL f' it'))) ci3, .string ⟨#[]⟩, .int .i64 0])
  go_upto_region 7 with (fail)
  obtain ⟨W4, hW4⟩ : ∃ W4, W4 = w4.alloc (.cells #[.int .i64 9, .int .i64 0, .int .i64 0, .string ⟨#[]⟩, .string ⟨#[]⟩, .int .i64 0, .slice ai3 (TL.len ((TL.cons f it .nil).app (tailL f' it'))) ci3, .string ⟨#[]⟩, .int .i64 0] 24 (0, 0)) := ⟨_, rfl⟩
  rw [← hW4] at HF ⊢
  clear hW4
  obtain ⟨c0, c1, c2, c3, c4, c5, c6, c7, c8, -⟩ := nine_cells (HF.out.blk 5 rfl)
  obtain ⟨d0, d1, d2, d3, d4, d5, d6, d7, d8, -⟩ := nine_cells (HF.out.blk 4 rfl)
  have HSa := Lib.hid fun W (hb : Below W4.heap.size W4 W) => ((pSize_any f it _ W 0 W4.heap.size HT.out ((HF.out.rd0 6 rfl).below hb (Nat.le_refl _)) hb.size).mono fun e w' h => (show e = .returned (.int .i64 x) ∧ Below W.heap.size W w' from ⟨h.1.trans (by rw [HX.out]), h.2⟩))
  have HSb := Lib.hid fun W (hb : Below W4.heap.size W4 W) => ((pSize_any f' it' _ W 0 W4.heap.size HT'.out ((HF.out.rd0 7 rfl).below hb (Nat.le_refl _)) hb.size).mono fun e w' h => (show e = .returned (.int .i64 y) ∧ Below W.heap.size W w' from ⟨h.1.trans (by rw [HY.out]), h.2⟩))
  have HBc := Lib.hid (Below.refl W4.heap.size W4)
  go_region_held3 (fun w' => w'.cell? ⟨w.heap.size, 0, none⟩ = some (.int .i64 f.k) ∧ w'.cell? ⟨w.heap.size, 1, none⟩ = some (.int .i64 f.i) ∧ w'.cell? ⟨w.heap.size, 2, none⟩ = some (.int .i64 f.g) ∧ w'.cell? ⟨w.heap.size, 3, none⟩ = some (.string f.nm) ∧ w'.cell? ⟨w.heap.size, 4, none⟩ = some (.string f.fn) ∧ w'.cell? ⟨w.heap.size, 5, none⟩ = some (.int .i64 f.ar) ∧ w'.cell? ⟨w.heap.size, 6, none⟩ = some (.slice ai it.len ci) ∧ w'.cell? ⟨w.heap.size, 7, none⟩ = some (.string f.bs) ∧ w'.cell? ⟨w.heap.size, 8, none⟩ = some (.int .i64 f.n) ∧ w'.cell? ⟨w.heap.size + 1, 0, none⟩ = some (.int .i64 f'.k) ∧ w'.cell? ⟨w.heap.size + 1, 1, none⟩ = some (.int .i64 f'.i) ∧ w'.cell? ⟨w.heap.size + 1, 2, none⟩ = some (.int .i64 f'.g) ∧ w'.cell? ⟨w.heap.size + 1, 3, none⟩ = some (.string f'.nm) ∧ w'.cell? ⟨w.heap.size + 1, 4, none⟩ = some (.string f'.fn) ∧ w'.cell? ⟨w.heap.size + 1, 5, none⟩ = some (.int .i64 f'.ar) ∧ w'.cell? ⟨w.heap.size + 1, 6, none⟩ = some (.slice ai' it'.len ci') ∧ w'.cell? ⟨w.heap.size + 1, 7, none⟩ = some (.string f'.bs) ∧ w'.cell? ⟨w.heap.size + 1, 8, none⟩ = some (.int .i64 f'.n))
    (first
      | (exact ⟨c0, c1, c2, c3, c4, c5, c6, c7, c8, d0, d1, d2, d3, d4, d5, d6, d7, d8⟩)
      | (go_split_ands; refine ⟨?_, ?_, ?_, ?_, ?_, ?_, ?_, ?_, ?_, ?_, ?_, ?_, ?_, ?_, ?_, ?_, ?_, ?_⟩ <;> exact below_keep hb1 (by assumption)))
    (first
      | (go_at_call 23; ((with_reducible refine (HSa.out _ (by first | exact HBc.out | exact HBc.out.drew)).mono ?_); rintro e w1 ⟨rfl, hb1⟩); have HBc := Lib.hid (show Below W4.heap.size W4 w1 by first | exact bstep HBc.out hb1 | exact bstep HBc.out.drew hb1))
      | (go_at_call 23; ((with_reducible refine (HSb.out _ (by first | exact HBc.out | exact HBc.out.drew)).mono ?_); rintro e w1 ⟨rfl, hb1⟩); have HBc := Lib.hid (show Below W4.heap.size W4 w1 by first | exact bstep HBc.out hb1 | exact bstep HBc.out.drew hb1)))
  have HF := Lib.hid (HF.out.below HBc.out)
  clear c0 c1 c2 c3 c4 c5 c6 c7 c8 d0 d1 d2 d3 d4 d5 d6 d7 d8
  have hq : decide (2000 < x + y + 1) = false := by simp; omega
  obtain ⟨c0, c1, c2, c3, c4, c5, c6, c7, c8, -⟩ := nine_cells (HF.out.blk 2 rfl)
  go_wp2_with fail
  refine (pSize_any (kF 7) (.cons f it (.cons f' it' .nil)) _ _ _ _ HM.out.1 (HF.out.nw0 3 rfl) (Nat.le_refl _)).mono ?_
  rintro e w5 ⟨he5, hb5⟩
  obtain rfl := he5.trans (show _ = Ending.returned (.int .i64 (x + y + 1)) by rw [H1.out])
  have HF := Lib.hid (HF.out.below hb5)
  clear hb5 c0 c1 c2 c3 c4 c5 c6 c7 c8
  obtain ⟨c0, c1, c2, c3, c4, c5, c6, c7, c8, -⟩ := nine_cells (HF.out.blk 0 rfl)
  go_wp2_with fail
  refine (pSize_any (kF 9) ((TL.cons f it .nil).app (tailL f' it')) _ _ _ _ HM.out.2 (HF.out.nw0 1 rfl) (Nat.le_refl _)).mono ?_
  rintro e w6 ⟨he6, hb6⟩
  obtain rfl := he6.trans (show _ = Ending.returned (.int .i64 (x + y + 1)) by rw [H3.out])
  have HF := Lib.hid (HF.out.below hb6)
  clear hb6 c0 c1 c2 c3 c4 c5 c6 c7 c8
  obtain ⟨c0, c1, c2, c3, c4, c5, c6, c7, c8, -⟩ := nine_cells (HF.out.blk 2 rfl)
  go_wp2_with fail
  refine (pValid_any (kF 7) (.cons f it (.cons f' it' .nil)) _ _ _ _ HM.out.1 (HF.out.nw0 3 rfl) (Nat.le_refl _)).mono ?_
  rintro e w7 ⟨he7, hb7⟩
  obtain rfl := he7.trans (show _ = Ending.returned (.bool true) by rw [H2.out])
  have HF := Lib.hid (HF.out.below hb7)
  clear hb7 c0 c1 c2 c3 c4 c5 c6 c7 c8
  obtain ⟨c0, c1, c2, c3, c4, c5, c6, c7, c8, -⟩ := nine_cells (HF.out.blk 0 rfl)
  go_wp2_with fail
  refine (pValid_any (kF 9) ((TL.cons f it .nil).app (tailL f' it')) _ _ _ _ HM.out.2 (HF.out.nw0 1 rfl) (Nat.le_refl _)).mono ?_
  rintro e w8 ⟨he8, hb8⟩
  obtain rfl := he8.trans (show _ = Ending.returned (.bool true) by rw [H4.out])
  have HF := Lib.hid (HF.out.below hb8)
  clear hb8 c0 c1 c2 c3 c4 c5 c6 c7 c8
  obtain ⟨c0, c1, c2, c3, c4, c5, c6, c7, c8, -⟩ := nine_cells (HF.out.blk 2 rfl)
  obtain ⟨d0, d1, d2, d3, d4, d5, d6, d7, d8, -⟩ := nine_cells (HF.out.blk 0 rfl)
  go_wp2_with fail
  go_ret
  exact ⟨rfl, HF.out.base 8 rfl⟩
end Go.Proofs.Ytgbaelkoblnlhaa
