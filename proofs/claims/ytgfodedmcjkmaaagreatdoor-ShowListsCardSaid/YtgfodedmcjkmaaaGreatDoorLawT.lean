/-
  Walks: the law ShowTerms.
-/
import Derived.Test.YtgfodedmcjkmaaaGreatDoorShowA
import Derived.Test.YtgfodedmcjkmaaaGreatDoorRtA
import Derived.Test.YtgfodedmcjkmaaaGreatDoorKept
namespace Go.Proofs.YtgfodedmcjkmaaaGreatDoor
open Go.RowKit Go.Proofs.BitsM
theorem tr_some (f : Fd) (it : TL) : ∃ sx ex, termR f it = .tuple #[.string sx, .int .i64 ex] := by
  unfold termR; split
  · exact ⟨_, _, rfl⟩
  · exact ⟨_, _, rfl⟩
set_option maxRecDepth 100000 in
set_option maxHeartbeats 8000000 in
theorem terms_great (f : Fd) (it : TL) (ai : Option Addr) (ci : Nat) (w : World) (hP : Pw w.heap.size w) (hs : RdS w 0 w.heap.size it (.slice ai it.len ci)) (hg : leftF (.cons f it .nil) 6000 < 0) :
    Calls Tryz.prog 3 #[.agg #[.int .i64 f.k, .int .i64 f.i, .int .i64 f.g, .string f.nm, .string f.fn, .int .i64 f.ar, .slice ai it.len ci, .string f.bs, .int .i64 f.n]] w (Yes w) := by
  have HP := Lib.hid hP
  clear hP
  have HG := Lib.hid hg
  clear hg
  have HF0 := Lib.hid (show Bq w [.rd 0 w.heap.size it (.slice ai it.len ci), .base (fun _ => False) w] from ⟨⟨hs, Nat.le_refl _⟩, Ch.refl _ _, trivial⟩)
  clear hs
  go_enter Tryz.func3, Tryz.ntmps3
  go_wp2_with fail
  have HF1 := Lib.hid (HF0.out.box #[.int .i64 f.k, .int .i64 f.i, .int .i64 f.g, .string f.nm, .string f.fn, .int .i64 f.ar, .slice ai it.len ci, .string f.bs, .int .i64 f.n] 24 (n := w.heap.size) (by rfl))
  clear HF0
  refine (shown6_any _ (HP.out.below (((HF1.out.base 2 rfl)).below (Nat.le_refl _) fun _ _ h => h))).mono ?_
  rintro e w1 ⟨rfl, hb⟩
  have HF2 := Lib.hid (HF1.out.below hb)
  clear HF1
  have hz1 : w.heap.size + 1 ≤ w1.heap.size := by have := hb.size; first | omega | (simp at this; omega)
  clear hb
  obtain ⟨c0, c1, c2, c3, c4, c5, c6, c7, c8, -⟩ := nine_cells (HF2.out.blk 0 rfl)
  have hv0 := lt_of_block (HF2.out.blk 0 rfl)
  go_wp2_with fail
  have h1 := RdS.one1 (f := f) ((HF2.out.rd 1 rfl).1.more (HF2.out.rd 1 rfl).2)
  have HF3 := Lib.hid (HF2.out.box #[.int .i64 f.k, .int .i64 f.i, .int .i64 f.g, .string f.nm, .string f.fn, .int .i64 f.ar, .slice ai it.len ci, .string f.bs, .int .i64 f.n] 24 (n := w1.heap.size) (by rfl))
  clear HF2
  refine (gr_yes _ _ _ _ _ _ h1 (by simp) (by decide) (by decide) HG.out).mono ?_
  rintro e w2 ⟨rfl, hb⟩
  have HF4 := Lib.hid (HF3.out.below hb)
  clear HF3
  have hz2 : w1.heap.size + 1 ≤ w2.heap.size := by have := hb.size; first | omega | (simp at this; omega)
  clear hb
  clear h1
  clear c0 c1 c2 c3 c4 c5 c6 c7 c8 hv0
  go_wp2_with fail
  go_ret
  exact ⟨rfl, (((HF4.out.base 3 rfl)).below (Nat.le_refl _) fun _ _ h => h)⟩
set_option maxRecDepth 100000 in
set_option maxHeartbeats 8000000 in
theorem terms_main (f : Fd) (it : TL) (ai : Option Addr) (ci : Nat) (w : World) (hP : Pw w.heap.size w) (hs : RdS w 0 w.heap.size it (.slice ai it.len ci)) (hi : f.iok) (hii : it.iok) (hg : 0 ≤ leftF (.cons f it .nil) 6000) :
    Calls Tryz.prog 3 #[.agg #[.int .i64 f.k, .int .i64 f.i, .int .i64 f.g, .string f.nm, .string f.fn, .int .i64 f.ar, .slice ai it.len ci, .string f.bs, .int .i64 f.n]] w (Yes w) := by
  have HP := Lib.hid hP
  clear hP
  obtain ⟨htm, hcn⟩ := tame_of1 (by decide) hg
  have HTM := Lib.hid htm
  have HCN := Lib.hid hcn
  have HI := Lib.hid hi
  have HII := Lib.hid hii
  clear htm hcn hi hii
  have HG := Lib.hid hg
  clear hg
  have HF0 := Lib.hid (show Bq w [.rd 0 w.heap.size it (.slice ai it.len ci), .base (fun _ => False) w] from ⟨⟨hs, Nat.le_refl _⟩, Ch.refl _ _, trivial⟩)
  clear hs
  go_enter Tryz.func3, Tryz.ntmps3
  go_wp2_with fail
  have HF1 := Lib.hid (HF0.out.box #[.int .i64 f.k, .int .i64 f.i, .int .i64 f.g, .string f.nm, .string f.fn, .int .i64 f.ar, .slice ai it.len ci, .string f.bs, .int .i64 f.n] 24 (n := w.heap.size) (by rfl))
  clear HF0
  refine (shown6_any _ (HP.out.below (((HF1.out.base 2 rfl)).below (Nat.le_refl _) fun _ _ h => h))).mono ?_
  rintro e w1 ⟨rfl, hb⟩
  have HF2 := Lib.hid (HF1.out.below hb)
  clear HF1
  have hz1 : w.heap.size + 1 ≤ w1.heap.size := by have := hb.size; first | omega | (simp at this; omega)
  clear hb
  obtain ⟨c0, c1, c2, c3, c4, c5, c6, c7, c8, -⟩ := nine_cells (HF2.out.blk 0 rfl)
  have hv0 := lt_of_block (HF2.out.blk 0 rfl)
  go_wp2_with fail
  have h1 := RdS.one1 (f := f) ((HF2.out.rd 1 rfl).1.more (HF2.out.rd 1 rfl).2)
  have HF3 := Lib.hid (HF2.out.box #[.int .i64 f.k, .int .i64 f.i, .int .i64 f.g, .string f.nm, .string f.fn, .int .i64 f.ar, .slice ai it.len ci, .string f.bs, .int .i64 f.n] 24 (n := w1.heap.size) (by rfl))
  clear HF2
  refine (gr_no _ _ _ _ _ _ h1 (by simp) (by decide) (by decide) HG.out).mono ?_
  rintro e w2 ⟨rfl, hb⟩
  have HF4 := Lib.hid (HF3.out.below hb)
  clear HF3
  have hz2 : w1.heap.size + 1 ≤ w2.heap.size := by have := hb.size; first | omega | (simp at this; omega)
  clear hb
  clear h1
  clear c0 c1 c2 c3 c4 c5 c6 c7 c8 hv0
  obtain ⟨c0, c1, c2, c3, c4, c5, c6, c7, c8, -⟩ := nine_cells (HF4.out.blk 1 rfl)
  have hv0 := lt_of_block (HF4.out.blk 1 rfl)
  go_wp2_with fail
  refine ((lend_all it.cnt).1 f it _ _ 0 w.heap.size (Nat.le_refl _) (by have := HCN.out; omega) (HF4.out.rd 2 rfl).1 (HF4.out.rd 2 rfl).2).mono ?_
  rintro e w3 ⟨aj, cj, rfl, hk, hb⟩
  clear c0 c1 c2 c3 c4 c5 c6 c7 c8 hv0
  have HK0 := Lib.hid hk
  clear hk
  have HF5 := Lib.hid (HF4.out.below hb)
  clear HF4
  have hz3 : w2.heap.size ≤ w3.heap.size := by have := hb.size; first | omega | (simp at this; omega)
  clear hb
  have hzw : w.heap.size ≤ w3.heap.size := by omega
  go_wp2_with fail
  have HF6 := Lib.hid (HF5.out.box #[.int .i64 f.k, .int .i64 f.i, .int .i64 f.g, .string f.nm, .string f.fn, .int .i64 f.ar, .slice aj it.len cj, .string f.bs, .int .i64 f.n] 24 (n := w3.heap.size) (by rfl))
  clear HF5
  have HK1 := Lib.hid (HK0.out.below (below_alloc w3 (.cells #[.int .i64 f.k, .int .i64 f.i, .int .i64 f.g, .string f.nm, .string f.fn, .int .i64 f.ar, .slice aj it.len cj, .string f.bs, .int .i64 f.n] 24 (0, 0))) (Nat.le_refl _) hzw)
  clear HK0
  obtain ⟨sx, ex, hR⟩ := tr_some f it
  have HR := Lib.hid hR
  clear hR
  refine ((Term_any f it aj cj _ _ _ HTM.out HI.out HII.out HK1.out.nws.rds (by simp) (HP.out.below (((HF6.out.base 4 rfl)).below (Nat.le_refl _) fun _ _ h => h))).mono fun e w' h => (show e = .returned (.tuple #[.string sx, .int .i64 ex]) ∧ Below _ _ w' from ⟨h.1.trans (by rw [HR.out]), h.2⟩)).mono ?_
  rintro e w4 ⟨rfl, hb⟩
  have HK2 := Lib.hid (HK1.out.below hb (by simp) (by simp; omega))
  clear HK1
  have HF7 := Lib.hid (HF6.out.below hb)
  clear HF6
  have hz4 : w3.heap.size + 1 ≤ w4.heap.size := by have := hb.size; first | omega | (simp at this; omega)
  clear hb
  obtain ⟨c0, c1, c2, c3, c4, c5, c6, c7, c8, -⟩ := nine_cells (HF7.out.blk 2 rfl)
  have hv0 := lt_of_block (HF7.out.blk 2 rfl)
  go_wp2_with fail
  refine ((rTerm_any f it ai ci _ _ _ HTM.out HI.out HII.out (HF7.out.rd 3 rfl).1 (HF7.out.rd 3 rfl).2).mono fun e w' h => (show e = .returned (.tuple #[.string sx, .int .i64 ex]) ∧ Below _ _ w' from ⟨h.1.trans (by rw [HR.out]), h.2⟩)).mono ?_
  rintro e w5 ⟨rfl, hb⟩
  have HK3 := Lib.hid (HK2.out.below hb (by omega) (by omega))
  clear HK2
  have HF8 := Lib.hid (HF7.out.below hb)
  clear HF7
  have hz5 : w4.heap.size ≤ w5.heap.size := by have := hb.size; first | omega | (simp at this; omega)
  clear hb
  clear c0 c1 c2 c3 c4 c5 c6 c7 c8 hv0
  obtain ⟨c0, c1, c2, c3, c4, c5, c6, c7, c8, -⟩ := nine_cells (HF8.out.blk 0 rfl)
  have hv0 := lt_of_block (HF8.out.blk 0 rfl)
  obtain ⟨d0, d1, d2, d3, d4, d5, d6, d7, d8, -⟩ := nine_cells (HF8.out.blk 2 rfl)
  have hv1 := lt_of_block (HF8.out.blk 2 rfl)
  go_wp2_with fail
  refine ((kept_all it.cnt).1 f it _ _ _ _ _ _ _ (Nat.le_refl _) HK3.out (by omega) (by omega)).mono ?_
  rintro e w6 ⟨rfl, hb⟩
  have HF9 := Lib.hid (HF8.out.below hb)
  clear HF8
  have hz6 : w5.heap.size ≤ w6.heap.size := by have := hb.size; first | omega | (simp at this; omega)
  clear hb
  clear c0 c1 c2 c3 c4 c5 c6 c7 c8 hv0 d0 d1 d2 d3 d4 d5 d6 d7 d8 hv1
  go_wp2_with fail
  go_ret
  exact ⟨rfl, (((HF9.out.base 4 rfl)).below (Nat.le_refl _) fun _ _ h => h)⟩
end Go.Proofs.YtgfodedmcjkmaaaGreatDoor
