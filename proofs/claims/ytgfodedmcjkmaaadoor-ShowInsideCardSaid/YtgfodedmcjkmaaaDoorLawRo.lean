/-
  Walks: the law ShowRound.
-/
import Derived.Test.YtgfodedmcjkmaaaDoorShowA
namespace Go.Proofs.YtgfodedmcjkmaaaDoor
open Go.RowKit Go.Proofs.BitsM
theorem valid_c (b : Bool) (f : Fd) (it : TL) (iv : Value) (w : World) (A B : Nat) (ht : tame f it) (hs : RdS w A B it iv) (hB : B ≤ w.heap.size) (hb : validF f it = b) :
    Calls Tryd.prog 8 #[.agg #[.int .i64 f.k, .int .i64 f.i, .int .i64 f.g, .string f.nm, .string f.fn, .int .i64 f.ar, iv, .string f.bs, .int .i64 f.n]] w fun e w' => e = .returned (.bool b) ∧ Below w.heap.size w w' :=
  (rValid_any f it iv w A B ht hs hB).mono fun _ _ h => ⟨h.1.trans (by rw [hb]), h.2⟩
theorem term_c (f : Fd) (it : TL) (ai : Option Addr) (ci A B : Nat) (w : World) (ht : tame f it) (hi : f.iok) (hii : it.iok) (hs : RdS w A B it (.slice ai it.len ci)) (hB : B ≤ w.heap.size) (hP : Pw w.heap.size w) (hv : validF f it = true) :
    Calls Tryd.prog 9 #[.agg #[.int .i64 f.k, .int .i64 f.i, .int .i64 f.g, .string f.nm, .string f.fn, .int .i64 f.ar, .slice ai it.len ci, .string f.bs, .int .i64 f.n]] w fun e w' => e = .returned (.tuple #[.string (ba (textT f it)), .int .i64 0]) ∧ Below w.heap.size w w' :=
  (Term_any f it ai ci A B w ht hi hii hs hB hP).mono fun _ _ h => ⟨h.1.trans (by unfold termR; rw [hv]; rfl), h.2⟩
set_option maxRecDepth 100000 in
set_option maxHeartbeats 8000000 in
theorem round_great (f : Fd) (it : TL) (ai : Option Addr) (ci : Nat) (w : World) (hP : Pw w.heap.size w) (hs : RdS w 0 w.heap.size it (.slice ai it.len ci)) (hg : leftF (.cons f it .nil) 6000 < 0) :
    Calls Tryd.prog 3 #[.agg #[.int .i64 f.k, .int .i64 f.i, .int .i64 f.g, .string f.nm, .string f.fn, .int .i64 f.ar, .slice ai it.len ci, .string f.bs, .int .i64 f.n]] w (Yes w) := by
  have HP := Lib.hid hP
  clear hP
  have HG := Lib.hid hg
  clear hg
  have HF0 := Lib.hid (show Bq w [.rd 0 w.heap.size it (.slice ai it.len ci), .base (fun _ => False) w] from ⟨⟨hs, Nat.le_refl _⟩, Ch.refl _ _, trivial⟩)
  clear hs
  go_enter Tryd.func3, Tryd.ntmps3
  go_wp2_with fail
  have HF1 := Lib.hid (HF0.out.box #[.int .i64 f.k, .int .i64 f.i, .int .i64 f.g, .string f.nm, .string f.fn, .int .i64 f.ar, .slice ai it.len ci, .string f.bs, .int .i64 f.n] 24 (n := w.heap.size) (by rfl))
  clear HF0
  refine (shown6_any _ (HP.out.below (((HF1.out.base 2 rfl)).below (Nat.le_refl _) fun _ _ h => h))).mono ?_
  rintro e w1 ⟨rfl, hb⟩
  have HF2 := Lib.hid (HF1.out.below hb)
  clear HF1
  have hz1 : w.heap.size + 1 ≤ w1.heap.size := by have := hb.size; first | omega | (simp at this; omega)
  clear hb
  obtain ⟨c0, c1, c2, c3, c4, c5, c6, c7, c8, -⟩ := nine_cells (HF2.out.blk 0 rfl)
  have hv0 := lt_of_block (HF2.out.blk 0 rfl)
  go_wp2_with fail
  have h1 := RdS.one1 (f := f) ((HF2.out.rd 1 rfl).1.more (HF2.out.rd 1 rfl).2)
  have HF3 := Lib.hid (HF2.out.box #[.int .i64 f.k, .int .i64 f.i, .int .i64 f.g, .string f.nm, .string f.fn, .int .i64 f.ar, .slice ai it.len ci, .string f.bs, .int .i64 f.n] 24 (n := w1.heap.size) (by rfl))
  clear HF2
  refine (gr_yes _ _ _ _ _ _ h1 (by simp) (by decide) (by decide) HG.out).mono ?_
  rintro e w2 ⟨rfl, hb⟩
  have HF4 := Lib.hid (HF3.out.below hb)
  clear HF3
  have hz2 : w1.heap.size + 1 ≤ w2.heap.size := by have := hb.size; first | omega | (simp at this; omega)
  clear hb
  clear h1
  clear c0 c1 c2 c3 c4 c5 c6 c7 c8 hv0
  go_wp2_with fail
  go_ret
  exact ⟨rfl, (((HF4.out.base 3 rfl)).below (Nat.le_refl _) fun _ _ h => h)⟩
set_option maxRecDepth 100000 in
set_option maxHeartbeats 8000000 in
theorem round_bad (f : Fd) (it : TL) (ai : Option Addr) (ci : Nat) (w : World) (hP : Pw w.heap.size w) (hs : RdS w 0 w.heap.size it (.slice ai it.len ci)) (hg : 0 ≤ leftF (.cons f it .nil) 6000) (hv : validF f it = false) :
    Calls Tryd.prog 3 #[.agg #[.int .i64 f.k, .int .i64 f.i, .int .i64 f.g, .string f.nm, .string f.fn, .int .i64 f.ar, .slice ai it.len ci, .string f.bs, .int .i64 f.n]] w (Yes w) := by
  have HP := Lib.hid hP
  clear hP
  obtain ⟨htm, -⟩ := tame_of1 (by decide) hg
  have HTM := Lib.hid htm
  have HV := Lib.hid hv
  clear htm hv
  have HG := Lib.hid hg
  clear hg
  have HF0 := Lib.hid (show Bq w [.rd 0 w.heap.size it (.slice ai it.len ci), .base (fun _ => False) w] from ⟨⟨hs, Nat.le_refl _⟩, Ch.refl _ _, trivial⟩)
  clear hs
  go_enter Tryd.func3, Tryd.ntmps3
  go_wp2_with fail
  have HF1 := Lib.hid (HF0.out.box #[.int .i64 f.k, .int .i64 f.i, .int .i64 f.g, .string f.nm, .string f.fn, .int .i64 f.ar, .slice ai it.len ci, .string f.bs, .int .i64 f.n] 24 (n := w.heap.size) (by rfl))
  clear HF0
  refine (shown6_any _ (HP.out.below (((HF1.out.base 2 rfl)).below (Nat.le_refl _) fun _ _ h => h))).mono ?_
  rintro e w1 ⟨rfl, hb⟩
  have HF2 := Lib.hid (HF1.out.below hb)
  clear HF1
  have hz1 : w.heap.size + 1 ≤ w1.heap.size := by have := hb.size; first | omega | (simp at this; omega)
  clear hb
  obtain ⟨c0, c1, c2, c3, c4, c5, c6, c7, c8, -⟩ := nine_cells (HF2.out.blk 0 rfl)
  have hv0 := lt_of_block (HF2.out.blk 0 rfl)
  go_wp2_with fail
  have h1 := RdS.one1 (f := f) ((HF2.out.rd 1 rfl).1.more (HF2.out.rd 1 rfl).2)
  have HF3 := Lib.hid (HF2.out.box #[.int .i64 f.k, .int .i64 f.i, .int .i64 f.g, .string f.nm, .string f.fn, .int .i64 f.ar, .slice ai it.len ci, .string f.bs, .int .i64 f.n] 24 (n := w1.heap.size) (by rfl))
  clear HF2
  refine (gr_no _ _ _ _ _ _ h1 (by simp) (by decide) (by decide) HG.out).mono ?_
  rintro e w2 ⟨rfl, hb⟩
  have HF4 := Lib.hid (HF3.out.below hb)
  clear HF3
  have hz2 : w1.heap.size + 1 ≤ w2.heap.size := by have := hb.size; first | omega | (simp at this; omega)
  clear hb
  clear h1
  clear c0 c1 c2 c3 c4 c5 c6 c7 c8 hv0
  obtain ⟨c0, c1, c2, c3, c4, c5, c6, c7, c8, -⟩ := nine_cells (HF4.out.blk 1 rfl)
  have hv0 := lt_of_block (HF4.out.blk 1 rfl)
  go_wp2_with fail
  refine (valid_c _ f it _ _ _ _ HTM.out (HF4.out.rd 2 rfl).1 (HF4.out.rd 2 rfl).2 HV.out).mono ?_
  rintro e w3 ⟨rfl, hb⟩
  have HF5 := Lib.hid (HF4.out.below hb)
  clear HF4
  have hz3 : w2.heap.size ≤ w3.heap.size := by have := hb.size; first | omega | (simp at this; omega)
  clear hb
  clear c0 c1 c2 c3 c4 c5 c6 c7 c8 hv0
  go_wp2_with fail
  go_ret
  exact ⟨rfl, (((HF5.out.base 3 rfl)).below (Nat.le_refl _) fun _ _ h => h)⟩
set_option maxRecDepth 100000 in
set_option maxHeartbeats 8000000 in
theorem round_main (f : Fd) (it : TL) (ai : Option Addr) (ci : Nat) (w : World) (hP : Pw w.heap.size w) (hs : RdS w 0 w.heap.size it (.slice ai it.len ci)) (hi : f.iok) (hii : it.iok) (hg : 0 ≤ leftF (.cons f it .nil) 6000) (hv : validF f it = true) :
    Calls Tryd.prog 3 #[.agg #[.int .i64 f.k, .int .i64 f.i, .int .i64 f.g, .string f.nm, .string f.fn, .int .i64 f.ar, .slice ai it.len ci, .string f.bs, .int .i64 f.n]] w (Yes w) := by
  have HP := Lib.hid hP
  clear hP
  obtain ⟨htm, -⟩ := tame_of1 (by decide) hg
  have HTM := Lib.hid htm
  have HV := Lib.hid hv
  clear htm hv
  have HT := Lib.hid fun W A B (hs : RdS W A B it (.slice ai it.len ci)) (hB : B ≤ W.heap.size) hP => term_c f it ai ci A B W HTM.out hi hii hs hB hP HV.out
  have hln := textT_len HV.out hi hii
  have HOK := Lib.hid ((text_okB it (form_node (valid_form HV.out).1).2).2 f it (valid_form HV.out).1 rfl)
  have HRd := Lib.hid (readT_text HV.out hi hii)
  generalize textT f it = L at HT hln HOK HRd
  clear hi hii
  have HR1 := Lib.hid fun W => read_tup L W (by omega) HRd.out (f := f) (it := it) (k := 0) rfl rfl rfl
  clear HRd
  have HG := Lib.hid hg
  clear hg
  have HF0 := Lib.hid (show Bq w [.rd 0 w.heap.size it (.slice ai it.len ci), .base (fun _ => False) w] from ⟨⟨hs, Nat.le_refl _⟩, Ch.refl _ _, trivial⟩)
  clear hs
  go_enter Tryd.func3, Tryd.ntmps3
  go_wp2_with fail
  have HF1 := Lib.hid (HF0.out.box #[.int .i64 f.k, .int .i64 f.i, .int .i64 f.g, .string f.nm, .string f.fn, .int .i64 f.ar, .slice ai it.len ci, .string f.bs, .int .i64 f.n] 24 (n := w.heap.size) (by rfl))
  clear HF0
  refine (shown6_any _ (HP.out.below (((HF1.out.base 2 rfl)).below (Nat.le_refl _) fun _ _ h => h))).mono ?_
  rintro e w1 ⟨rfl, hb⟩
  have HF2 := Lib.hid (HF1.out.below hb)
  clear HF1
  have hz1 : w.heap.size + 1 ≤ w1.heap.size := by have := hb.size; first | omega | (simp at this; omega)
  clear hb
  obtain ⟨c0, c1, c2, c3, c4, c5, c6, c7, c8, -⟩ := nine_cells (HF2.out.blk 0 rfl)
  have hv0 := lt_of_block (HF2.out.blk 0 rfl)
  go_wp2_with fail
  have h1 := RdS.one1 (f := f) ((HF2.out.rd 1 rfl).1.more (HF2.out.rd 1 rfl).2)
  have HF3 := Lib.hid (HF2.out.box #[.int .i64 f.k, .int .i64 f.i, .int .i64 f.g, .string f.nm, .string f.fn, .int .i64 f.ar, .slice ai it.len ci, .string f.bs, .int .i64 f.n] 24 (n := w1.heap.size) (by rfl))
  clear HF2
  refine (gr_no _ _ _ _ _ _ h1 (by simp) (by decide) (by decide) HG.out).mono ?_
  rintro e w2 ⟨rfl, hb⟩
  have HF4 := Lib.hid (HF3.out.below hb)
  clear HF3
  have hz2 : w1.heap.size + 1 ≤ w2.heap.size := by have := hb.size; first | omega | (simp at this; omega)
  clear hb
  clear h1
  clear c0 c1 c2 c3 c4 c5 c6 c7 c8 hv0
  obtain ⟨c0, c1, c2, c3, c4, c5, c6, c7, c8, -⟩ := nine_cells (HF4.out.blk 1 rfl)
  have hv0 := lt_of_block (HF4.out.blk 1 rfl)
  go_wp2_with fail
  refine (valid_c _ f it _ _ _ _ HTM.out (HF4.out.rd 2 rfl).1 (HF4.out.rd 2 rfl).2 HV.out).mono ?_
  rintro e w3 ⟨rfl, hb⟩
  have HF5 := Lib.hid (HF4.out.below hb)
  clear HF4
  have hz3 : w2.heap.size ≤ w3.heap.size := by have := hb.size; first | omega | (simp at this; omega)
  clear hb
  clear c0 c1 c2 c3 c4 c5 c6 c7 c8 hv0
  obtain ⟨c0, c1, c2, c3, c4, c5, c6, c7, c8, -⟩ := nine_cells (HF5.out.blk 1 rfl)
  have hv0 := lt_of_block (HF5.out.blk 1 rfl)
  go_wp2_with fail
  refine (HT.out _ _ _ (HF5.out.rd 2 rfl).1 (HF5.out.rd 2 rfl).2 (HP.out.below (((HF5.out.base 3 rfl)).below (Nat.le_refl _) fun _ _ h => h))).mono ?_
  rintro e w4 ⟨rfl, hb⟩
  have HF6 := Lib.hid (HF5.out.below hb)
  clear HF5
  have hz4 : w3.heap.size ≤ w4.heap.size := by have := hb.size; first | omega | (simp at this; omega)
  clear hb
  clear c0 c1 c2 c3 c4 c5 c6 c7 c8 hv0
  have hsz : ((ba L).size : Int) = (L.length : Int) := by rw [ba_size]
  have hsn : (ba L).size = L.length := ba_size L
  go_wp2_with fail
  go_loopw [5] (fun i wz => ∃ k : Nat, k ≤ L.length ∧ i = .int .i64 k ∧ wz = w4) (fun i _ => L.length - (intOf i).toNat)
  case atStart => exact ⟨0, Nat.zero_le _, rfl, rfl⟩
  case round =>
    obtain ⟨k, hk, rfl, rfl⟩ := hrel
    by_cases hkl : k < L.length
    · have x1 : (k : Int) < ((ba L).size : Int) := by omega
      have hks : k < (ba L).size := by omega
      have hc := HOK.out ((ba L)[k]'hks) (by have : (ba L)[k]'hks = L[k] := rfl; rw [this]; exact List.getElem_mem _)
      obtain ⟨hc1, hc2⟩ := hc
      have hc3 : ¬ (((ba L)[k]'hks).toNat : Int) < 32 := by omega
      have hc4 : ¬ (126 : Int) < (((ba L)[k]'hks).toNat : Int) := by omega
      clear hc1 hc2
      go_wp2_with fail
      all_goals (try (exfalso; omega))
      go_roundw
      case rel => exact ⟨k + 1, by omega, by go_num, trivial⟩
      case measure => simp only [intOf]; omega
    · have x1 : ¬ (k : Int) < ((ba L).size : Int) := by omega
      go_wp2_with fail
      all_goals (try (exfalso; omega))
      refine (HR1.out _).mono ?_
      rintro e w5 ⟨aj, cj, rfl, hrd, hb⟩
      have HF7 := Lib.hid (HF6.out.below hb)
      clear HF6
      have hz5 : wr.heap.size ≤ w5.heap.size := by have := hb.size; first | omega | (simp at this; omega)
      clear hb
      have HRD := Lib.hid hrd
      clear hrd
      have HF8 := Lib.hid (HF7.out.add (f := .rd 0 w5.heap.size it (.slice aj it.len cj)) ⟨HRD.out.less (Nat.zero_le _), Nat.le_refl _⟩)
      clear HF7
      clear HRD
      obtain ⟨c0, c1, c2, c3, c4, c5, c6, c7, c8, -⟩ := nine_cells (HF8.out.blk 2 rfl)
      have hv0 := lt_of_block (HF8.out.blk 2 rfl)
      go_wp2_with fail
      have HF9 := Lib.hid (HF8.out.box #[.int .i64 f.k, .int .i64 f.i, .int .i64 f.g, .string f.nm, .string f.fn, .int .i64 f.ar, .slice aj it.len cj, .string f.bs, .int .i64 f.n] 24 (n := w5.heap.size) (by rfl))
      clear HF8
      refine (ksame_eq f it _ _ _ _ _ ((HF9.out.rd 4 rfl).1.more (HF9.out.rd 4 rfl).2) ((HF9.out.rd 1 rfl).1.more (HF9.out.rd 1 rfl).2)).mono ?_
      rintro e w6 ⟨rfl, hb⟩
      have HF10 := Lib.hid (HF9.out.below hb)
      clear HF9
      have hz6 : w5.heap.size + 1 ≤ w6.heap.size := by have := hb.size; first | omega | (simp at this; omega)
      clear hb
      clear c0 c1 c2 c3 c4 c5 c6 c7 c8 hv0
      go_wp2_with fail
      go_ret
      exact ⟨rfl, (((HF10.out.base 5 rfl)).below (Nat.le_refl _) fun _ _ h => h)⟩
end Go.Proofs.YtgfodedmcjkmaaaDoor
