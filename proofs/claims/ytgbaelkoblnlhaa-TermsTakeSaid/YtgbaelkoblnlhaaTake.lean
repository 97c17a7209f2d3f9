/-
  Walks: the law TermsTake: Head, Tail and Elems of any term answer what the reference says, as new memory.
-/
import Derived.Test.YtgbaelkoblnlhaaBook
import Derived.Test.YtgbaelkoblnlhaaShown2
namespace Go.Proofs.Ytgbaelkoblnlhaa
open Go.RowKit
set_option maxRecDepth 100000 in
set_option maxHeartbeats 1000000 in
theorem take_great (f : Fd) (it : TL) (ai : Option Addr) (ci : Nat) (w : World) (hs : RdS w 0 w.heap.size it (.slice ai it.len ci)) (hg : leftF (.cons f it .nil) 20000 < 0) :
    Calls Try.prog 9 #[.agg #[.int .i64 f.k, .int .i64 f.i, .int .i64 f.g, .string f.nm, .string f.fn, .int .i64 f.ar, .slice ai it.len ci, .string f.bs, .int .i64 f.n]] w (Yes w) := by
  have HG := Lib.hid hg
  have HF0 := Lib.hid (show Bk w [.rd 0 w.heap.size it (.slice ai it.len ci), .base w] from ⟨⟨hs, Nat.le_refl _⟩, Below.refl _ _, trivial⟩)
  clear hs hg
  go_enter Try.func9, Try.ntmps9
  go_wp2_with fail
  refine (shown_any _).mono ?_
  rintro e w1 ⟨rfl, hb1⟩
  have HF := Lib.hid ((HF0.out.box #[.int .i64 f.k, .int .i64 f.i, .int .i64 f.g, .string f.nm, .string f.fn, .int .i64 f.ar, .slice ai it.len ci, .string f.bs, .int .i64 f.n]).below hb1)
  clear hb1 HF0
  obtain ⟨c0, c1, c2, c3, c4, c5, c6, c7, c8, -⟩ := nine_cells (HF.out.blk 0 rfl)

  go_wp2_with fail
  have h1 := RdS.one0 (f := f) (HF.out.rd0 1 rfl)
  refine (Great_yes _ _ _ _ _ _ h1 (by simp) (by decide) (by decide) HG.out).mono ?_
  rintro e w2 ⟨rfl, hb2⟩
  have HF := Lib.hid ((HF.out.alloc _).below hb2)
  clear hb2 h1
  go_wp2_with fail
  go_ret
  exact ⟨rfl, HF.out.base 2 rfl⟩
set_option maxRecDepth 100000 in
set_option maxHeartbeats 4000000 in
theorem take_main (f : Fd) (it : TL) (ai : Option Addr) (ci : Nat) (w : World) (hs : RdS w 0 w.heap.size it (.slice ai it.len ci)) (hg : 0 ≤ leftF (.cons f it .nil) 20000) :
    Calls Try.prog 9 #[.agg #[.int .i64 f.k, .int .i64 f.i, .int .i64 f.g, .string f.nm, .string f.fn, .int .i64 f.ar, .slice ai it.len ci, .string f.bs, .int .i64 f.n]] w (Yes w) := by
  have HT := Lib.hid (tame_of (by decide) hg).1
  have HN := Lib.hid (tame_of (by decide) hg).2
  have HG := Lib.hid hg
  have HF0 := Lib.hid (show Bk w [.rx (fun b => b < w.heap.size) it (.slice ai it.len ci), .base w] from ⟨⟨hs.x fun b _ h => h, fun b h => h⟩, Below.refl _ _, trivial⟩)
  clear hs hg
  go_enter Try.func9, Try.ntmps9
  go_wp2_with fail
  refine (shown_any _).mono ?_
  rintro e w1 ⟨rfl, hb1⟩
  have HF := Lib.hid ((HF0.out.box #[.int .i64 f.k, .int .i64 f.i, .int .i64 f.g, .string f.nm, .string f.fn, .int .i64 f.ar, .slice ai it.len ci, .string f.bs, .int .i64 f.n]).below hb1)
  have hz1 : w.heap.size + 1 ≤ w1.heap.size := by have := hb1.size; simp at this; omega
  clear hb1 HF0
  obtain ⟨c0, c1, c2, c3, c4, c5, c6, c7, c8, -⟩ := nine_cells (HF.out.blk 0 rfl)
  go_wp2_with fail
  have h1 := RdS.one0 (f := f) (HF.out.rx0 1 rfl)
  refine (Great_no _ _ _ _ _ _ h1 (by simp) (by decide) (by decide) HG.out).mono ?_
  rintro e w2 ⟨rfl, hb2⟩
  have HF := Lib.hid ((HF.out.alloc _).below hb2)
  have hz2 : w1.heap.size + 1 ≤ w2.heap.size := by have := hb2.size; simp at this; omega
  clear hb2 h1 c0 c1 c2 c3 c4 c5 c6 c7 c8
  obtain ⟨c0, c1, c2, c3, c4, c5, c6, c7, c8, -⟩ := nine_cells (HF.out.blk 0 rfl)
  go_wp2_with fail
  have h1 := (HF.out.rx 1 rfl).1.rd0 (B := w.heap.size) fun b h => h
  refine ((lend_all it.cnt).1 f it _ _ _ _ (Nat.le_refl _) (by have := HN.out; omega) h1 (by omega)).mono ?_
  rintro e w3 ⟨ai1, ci1, rfl, hk, hb3⟩
  have HF := Lib.hid ((HF.out.below hb3).add (f := .kp w2.heap.size w3.heap.size 0 w.heap.size it _ _) ⟨hk, hb3.size, Nat.le_refl _, by have := hb3.size; omega⟩)
  have hz3 : w2.heap.size ≤ w3.heap.size := hb3.size
  clear hb3 hk h1 c0 c1 c2 c3 c4 c5 c6 c7 c8
  have HF := Lib.hid (HF.out.box #[.int .i64 f.k, .int .i64 f.i, .int .i64 f.g, .string f.nm, .string f.fn, .int .i64 f.ar, .slice ai1 it.len ci1, .string f.bs, .int .i64 f.n])
  -- [box own L3 = w3.size, kp, box t, rx, base]
  go_wp2_with fail
  refine (pHead_any f it _ _ _ _ HT.out (HF.out.kp0 1 rfl) (Nat.le_refl _)).mono ?_
  rintro e w4 ⟨ai2, ci2, rfl, hn4, hb4⟩
  have HF := Lib.hid ((HF.out.below hb4).add (f := .nw (w3.heap.size + 1) w4.heap.size (headL f it) _) ⟨hn4.wide (by simp) (Nat.le_refl _), by have := hb4.size; simp at this; omega, Nat.le_refl _⟩)
  have hz4 : w3.heap.size + 1 ≤ w4.heap.size := by have := hb4.size; simp at this; omega
  clear hb4 hn4
  have HF := Lib.hid (HF.out.box #[.int .i64 (headF f it).k, .int .i64 (headF f it).i, .int .i64 (headF f it).g, .string (headF f it).nm, .string (headF f it).fn, .int .i64 (headF f it).ar, .slice ai2 (headL f it).len ci2, .string (headF f it).bs, .int .i64 (headF f it).n])
  -- [box h L4 = w4.size, nw h, box own, kp, box t, rx, base]
  obtain ⟨c0, c1, c2, c3, c4, c5, c6, c7, c8, -⟩ := nine_cells (HF.out.blk 4 rfl)
  go_wp2_with fail
  refine (rHead_any _ f it _ _ (HF.out.rx 5 rfl).2 HT.out (HF.out.rx 5 rfl).1).mono ?_
  rintro e w5 ⟨ai3, ci3, rfl, hx5, hb5⟩
  have HF := Lib.hid ((HF.out.below hb5).add (f := .rx (fun b => b < w.heap.size ∨ (w4.heap.size + 1 ≤ b ∧ b < w5.heap.size)) (headL f it) _) ⟨hx5.mono (fun b h => by simp at h; exact h), fun b h => by have := hb5.size; simp at this; omega⟩)
  have hz5 : w4.heap.size + 1 ≤ w5.heap.size := by have := hb5.size; simp at this; omega
  clear hb5 hx5 c0 c1 c2 c3 c4 c5 c6 c7 c8
  have HF := Lib.hid (HF.out.box #[.int .i64 (headF f it).k, .int .i64 (headF f it).i, .int .i64 (headF f it).g, .string (headF f it).nm, .string (headF f it).fn, .int .i64 (headF f it).ar, .slice ai3 (headL f it).len ci3, .string (headF f it).bs, .int .i64 (headF f it).n])
  -- [box w L5, rx w, box h L4, nw h, box own, kp, box t, rx, base]
  obtain ⟨c0, c1, c2, c3, c4, c5, c6, c7, c8, -⟩ := nine_cells (HF.out.blk 2 rfl)
  go_wp2_with fail
  refine (kitSame_eq (headF f it) (headL f it) _ _ _ _ _ (HF.out.nw0 3 rfl) (HF.out.rx0 1 rfl)).mono ?_
  rintro e w6 ⟨rfl, hb6⟩
  have HF := Lib.hid (HF.out.below hb6)
  have hz6 : w5.heap.size + 1 ≤ w6.heap.size := by have := hb6.size; simp at this; omega
  clear hb6 c0 c1 c2 c3 c4 c5 c6 c7 c8
  obtain ⟨c0, c1, c2, c3, c4, c5, c6, c7, c8, -⟩ := nine_cells (HF.out.blk 4 rfl)
  go_wp2_with fail
  refine (pTail_any f it _ _ _ _ HT.out (HF.out.kp0 5 rfl) (Nat.le_refl _)).mono ?_
  rintro e w7 ⟨ai4, ci4, rfl, hn7, hb7⟩
  have HF := Lib.hid ((HF.out.below hb7).add (f := .nw w6.heap.size w7.heap.size (tlL f it) _) ⟨hn7, hb7.size, Nat.le_refl _⟩)
  have hz7 : w6.heap.size ≤ w7.heap.size := hb7.size
  clear hb7 hn7 c0 c1 c2 c3 c4 c5 c6 c7 c8
  have HF := Lib.hid (HF.out.box #[.int .i64 (tlF f it).k, .int .i64 (tlF f it).i, .int .i64 (tlF f it).g, .string (tlF f it).nm, .string (tlF f it).fn, .int .i64 (tlF f it).ar, .slice ai4 (tlL f it).len ci4, .string (tlF f it).bs, .int .i64 (tlF f it).n])
  -- [0 box rest L7, 1 nw rest, 2 box w L5, 3 rx w, 4 box h L4, 5 nw h, 6 box own, 7 kp, 8 box t, 9 rx, 10 base]
  obtain ⟨c0, c1, c2, c3, c4, c5, c6, c7, c8, -⟩ := nine_cells (HF.out.blk 8 rfl)
  go_wp2_with fail
  refine (rTail_any _ f it _ _ (HF.out.rx 9 rfl).2 HT.out (HF.out.rx 9 rfl).1).mono ?_
  rintro e w8 ⟨ai5, ci5, rfl, hx8, hb8⟩
  have HF := Lib.hid ((HF.out.below hb8).add (f := .rx (fun b => b < w.heap.size ∨ (w7.heap.size + 1 ≤ b ∧ b < w8.heap.size)) (tlL f it) _) ⟨hx8.mono (fun b h => by simp at h; exact h), fun b h => by have := hb8.size; simp at this; omega⟩)
  have hz8 : w7.heap.size + 1 ≤ w8.heap.size := by have := hb8.size; simp at this; omega
  clear hb8 hx8 c0 c1 c2 c3 c4 c5 c6 c7 c8
  -- store into box w (index 3)
  have HC := Lib.hid (HF.out.blk 3 rfl)
  obtain ⟨c0, c1, c2, c3, c4, c5, c6, c7, c8, fr⟩ := nine_cells HC.out
  obtain ⟨d0, d1, d2, d3, d4, d5, d6, d7, d8, -⟩ := nine_cells (HF.out.blk 1 rfl)
  go_upto_region 12 with (fail)
  have HF := Lib.hid (HF.out.put 3 rfl (by refine ⟨?_, ?_, ?_, ?_, ?_, ?_, ?_, ?_, ?_, ?_, ?_, trivial⟩ <;> (simp only [Fct.apart]; first | omega | (intro b hb; omega))) (.int .i64 (tlF f it).k) (.int .i64 (tlF f it).i) (.int .i64 (tlF f it).g) (.string (tlF f it).nm) (.string (tlF f it).fn) (.int .i64 (tlF f it).ar) (.slice ai5 (tlL f it).len ci5) (.string (tlF f it).bs) (.int .i64 (tlF f it).n))
  obtain ⟨W8, hW8⟩ : ∃ W8, W8 = (((((((((w8.setCell ⟨w5.heap.size, 0, none⟩ (.int .i64 (tlF f it).k)).setCell ⟨w5.heap.size, 1, none⟩ (.int .i64 (tlF f it).i)).setCell ⟨w5.heap.size, 2, none⟩ (.int .i64 (tlF f it).g)).setCell ⟨w5.heap.size, 3, none⟩ (.string (tlF f it).nm)).setCell ⟨w5.heap.size, 4, none⟩ (.string (tlF f it).fn)).setCell ⟨w5.heap.size, 5, none⟩ (.int .i64 (tlF f it).ar)).setCell ⟨w5.heap.size, 6, none⟩ (.slice ai5 (tlL f it).len ci5)).setCell ⟨w5.heap.size, 7, none⟩ (.string (tlF f it).bs)).setCell ⟨w5.heap.size, 8, none⟩ (.int .i64 (tlF f it).n)) := ⟨_, rfl⟩
  have hz9 : w8.heap.size ≤ W8.heap.size := by rw [hW8]; exact (outs_nine _ _ _ _ _ _ _ _ _ _ _).size
  rw [← hW8] at HF ⊢
  clear hW8 HC c0 c1 c2 c3 c4 c5 c6 c7 c8 d0 d1 d2 d3 d4 d5 d6 d7 d8 fr
  -- [0 box w', 1 rx tail, 2 box rest, 3 nw rest, 4 rx head, 5 box h, 6 nw h, 7 box own, 8 kp, 9 box t, 10 rx, 11 base]
  obtain ⟨c0, c1, c2, c3, c4, c5, c6, c7, c8, -⟩ := nine_cells (HF.out.blk 0 rfl)
  obtain ⟨d0, d1, d2, d3, d4, d5, d6, d7, d8, -⟩ := nine_cells (HF.out.blk 2 rfl)
  go_wp2_with fail
  refine (kitSame_eq (tlF f it) (tlL f it) _ _ _ _ _ (HF.out.nw0 3 rfl) (HF.out.rx0 1 rfl)).mono ?_
  rintro e w9 ⟨rfl, hb9⟩
  have HF := Lib.hid (HF.out.below hb9)
  have hz10 : W8.heap.size ≤ w9.heap.size := hb9.size
  clear hb9 c0 c1 c2 c3 c4 c5 c6 c7 c8 d0 d1 d2 d3 d4 d5 d6 d7 d8
  obtain ⟨c0, c1, c2, c3, c4, c5, c6, c7, c8, -⟩ := nine_cells (HF.out.blk 7 rfl)
  go_wp2_with fail
  refine (pElems_any f it _ _ _ _ HT.out (HF.out.kp0 8 rfl) (Nat.le_refl _)).mono ?_
  rintro e w10 ⟨ai6, ci6, rfl, hn10, hb10⟩
  have HF := Lib.hid ((HF.out.below hb10).add (f := .nw w9.heap.size w10.heap.size (elL f it) _) ⟨hn10, hb10.size, Nat.le_refl _⟩)
  have hz11 : w9.heap.size ≤ w10.heap.size := hb10.size
  clear hb10 hn10 c0 c1 c2 c3 c4 c5 c6 c7 c8
  -- [0 nw l, 1 box w', 2 rx tail, 3 box rest, 4 nw rest, 5 rx head, 6 box h, 7 nw h, 8 box own, 9 kp, 10 box t, 11 rx, 12 base]
  obtain ⟨c0, c1, c2, c3, c4, c5, c6, c7, c8, -⟩ := nine_cells (HF.out.blk 10 rfl)
  go_wp2_with fail
  refine (rElems_any _ f it _ _ (HF.out.rx 11 rfl).2 HT.out (HF.out.rx 11 rfl).1).mono ?_
  rintro e w11 ⟨ai7, ci7, rfl, hx11, hb11⟩
  have HX := Lib.hid (show RdS w11 0 w11.heap.size (elL f it) (.slice ai7 (elL f it).len ci7) from hx11.rd0 fun b h => by have := hb11.size; have := (HF.out.rx 11 rfl).2 b; simp at this h; omega)
  have HF := Lib.hid (HF.out.below hb11)
  have hz12 : w10.heap.size ≤ w11.heap.size := hb11.size
  clear hb11 hx11 c0 c1 c2 c3 c4 c5 c6 c7 c8
  go_wp2_with fail
  refine (kitList_eq (elL f it) _ _ _ (HF.out.nw0 0 rfl) HX.out).mono ?_
  rintro e w12 ⟨rfl, hb12⟩
  have HF := Lib.hid (HF.out.below hb12)
  have hz13 : w11.heap.size ≤ w12.heap.size := hb12.size
  clear hb12 HX
  obtain ⟨c0, c1, c2, c3, c4, c5, c6, c7, c8, -⟩ := nine_cells (HF.out.blk 6 rfl)
  go_wp2_with fail
  refine (Spoil_any (headF f it) (headL f it).cnt _ _ _ _ _ _ ((HF.out.nw 7 rfl).1.sp _ _ _ (Nat.le_refl _)) (HF.out.nw 7 rfl).2.2).mono ?_
  rintro e w13 ⟨rfl, hs13⟩
  -- without nw h (7): [0 nw l, 1 box w', 2 rx tail, 3 box rest, 4 nw rest, 5 rx head, 6 box h, 7 box own, 8 kp, 9 box t, 10 rx, 11 base]
  have HF := Lib.hid (Bk.move (Outs.of_spw hs13) ((HF.out.del 7).del 2 |>.del 4) (by refine ⟨?_, ?_, ?_, ?_, ?_, ?_, ?_, ?_, ?_, ?_, trivial⟩ <;> (simp only [Fct.apart]; first | omega | (intro b hb; omega))))
  have hz14 : w12.heap.size ≤ w13.heap.size := hs13.size
  clear hs13 c0 c1 c2 c3 c4 c5 c6 c7 c8
  -- [0 nw l, 1 box w', 2 box rest, 3 nw rest, 4 box h, 5 box own, 6 kp, 7 box t, 8 rx, 9 base]
  obtain ⟨c0, c1, c2, c3, c4, c5, c6, c7, c8, -⟩ := nine_cells (HF.out.blk 2 rfl)
  go_wp2_with fail
  refine (Spoil_any (tlF f it) (tlL f it).cnt _ _ _ _ _ _ ((HF.out.nw 3 rfl).1.sp _ _ _ (Nat.le_refl _)) (HF.out.nw 3 rfl).2.2).mono ?_
  rintro e w14 ⟨rfl, hs14⟩
  have HF := Lib.hid (Bk.move (Outs.of_spw hs14) (HF.out.del 3) (by refine ⟨?_, ?_, ?_, ?_, ?_, ?_, ?_, ?_, ?_, trivial⟩ <;> (simp only [Fct.apart]; first | omega | (intro b hb; omega))))
  have hz15 : w13.heap.size ≤ w14.heap.size := hs14.size
  clear hs14 c0 c1 c2 c3 c4 c5 c6 c7 c8
  -- [0 nw l, 1 box w', 2 box rest, 3 box h, 4 box own, 5 kp, 6 box t, 7 rx, 8 base]
  go_wp2_with fail
  refine (spoil_all (elL f it).cnt _ _ _ _ ((HF.out.nw 0 rfl).1.sp _ _ _ (Nat.le_refl _)) (HF.out.nw 0 rfl).2.2).mono ?_
  rintro e w15 ⟨rfl, hs15⟩
  have HF := Lib.hid (Bk.move (Outs.of_spw hs15) (HF.out.del 0) (by refine ⟨?_, ?_, ?_, ?_, ?_, ?_, ?_, ?_, trivial⟩ <;> (simp only [Fct.apart]; first | omega | (intro b hb; omega))))
  clear hs15
  -- [0 box w', 1 box rest, 2 box h, 3 box own, 4 kp, 5 box t, 6 rx, 7 base]
  obtain ⟨c0, c1, c2, c3, c4, c5, c6, c7, c8, -⟩ := nine_cells (HF.out.blk 3 rfl)
  obtain ⟨d0, d1, d2, d3, d4, d5, d6, d7, d8, -⟩ := nine_cells (HF.out.blk 5 rfl)
  go_wp2_with fail
  refine ((kept_all it.cnt).1 f it _ _ _ _ _ _ _ (Nat.le_refl _) (HF.out.kp 4 rfl).1 (HF.out.kp 4 rfl).2.2.1 (HF.out.kp 4 rfl).2.2.2).mono ?_
  rintro e w16 ⟨rfl, hb16⟩
  have HF := Lib.hid (HF.out.below hb16)
  clear hb16
  go_wp2_with fail
  go_ret
  exact ⟨rfl, HF.out.base 7 rfl⟩
end Go.Proofs.Ytgbaelkoblnlhaa
