/-
  Walks: the law ShowBack.
-/
import Derived.Test.YtgfodedmcjkmaaaDoorLawRo
namespace Go.Proofs.YtgfodedmcjkmaaaDoor
open Go.RowKit Go.Proofs.BitsM
theorem read_tame {l : List UInt8} {f : Fd} {it : TL} (h : readT l = some (f, it)) (hl : l.length < 1000000) : tame f it := by
  unfold readT at h
  simp only [Option.bind_eq_some_iff] at h
  obtain ⟨x, h1, h2⟩ := h
  split at h2
  · injection h2 with h2
    obtain ⟨e1, e2⟩ := Prod.mk.inj h2
    obtain ⟨f', it', s⟩ := x
    simp only at e1 e2
    subst e1 e2
    exact term_tame h1 (by omega)
  · cases h2
set_option maxRecDepth 100000 in
set_option maxHeartbeats 8000000 in
theorem back_long (l : List UInt8) (w : World) (hP : Pw w.heap.size w) (hl : 20000 < l.length) :
    Calls Tryd.prog 4 #[.string (ba l)] w (Yes w) := by
  have HP := Lib.hid hP
  clear hP
  have x1 : (20000 : Int) < ((ba l).size : Int) := by rw [ba_size]; omega
  have HF0 := Lib.hid (show Bq w [.base (fun _ => False) w] from ⟨Ch.refl _ _, trivial⟩)
  go_enter Tryd.func4, Tryd.ntmps4
  go_wp2_with fail
  refine (shown6_any _ (HP.out.below (((HF0.out.base 0 rfl)).below (Nat.le_refl _) fun _ _ h => h))).mono ?_
  rintro e w1 ⟨rfl, hb⟩
  have HF1 := Lib.hid (HF0.out.below hb)
  clear HF0
  have hz1 : w.heap.size ≤ w1.heap.size := by have := hb.size; first | omega | (simp at this; omega)
  clear hb
  go_wp2_with fail
  go_ret
  exact ⟨rfl, (((HF1.out.base 0 rfl)).below (Nat.le_refl _) fun _ _ h => h)⟩
set_option maxRecDepth 100000 in
set_option maxHeartbeats 8000000 in
theorem back_none (l : List UInt8) (w : World) (hP : Pw w.heap.size w) (hl : l.length ≤ 20000) (hn : readT l = none) :
    Calls Tryd.prog 4 #[.string (ba l)] w (Yes w) := by
  have HP := Lib.hid hP
  clear hP
  have x1 : ¬ (20000 : Int) < ((ba l).size : Int) := by rw [ba_size]; omega
  have HR1 := Lib.hid fun W => read_tup l W (by omega) hn (f := kF 0) (it := .nil) (k := 6) rfl rfl rfl
  clear hn
  have HF0 := Lib.hid (show Bq w [.base (fun _ => False) w] from ⟨Ch.refl _ _, trivial⟩)
  go_enter Tryd.func4, Tryd.ntmps4
  go_wp2_with fail
  refine (shown6_any _ (HP.out.below (((HF0.out.base 0 rfl)).below (Nat.le_refl _) fun _ _ h => h))).mono ?_
  rintro e w1 ⟨rfl, hb⟩
  have HF1 := Lib.hid (HF0.out.below hb)
  clear HF0
  have hz1 : w.heap.size ≤ w1.heap.size := by have := hb.size; first | omega | (simp at this; omega)
  clear hb
  go_wp2_with fail
  refine (HR1.out _).mono ?_
  rintro e w2 ⟨ai, ci, rfl, hrd, hb⟩
  have HF2 := Lib.hid (HF1.out.below hb)
  clear HF1
  have hz2 : w1.heap.size ≤ w2.heap.size := by have := hb.size; first | omega | (simp at this; omega)
  clear hb
  have HRD := Lib.hid hrd
  clear hrd
  have HF3 := Lib.hid (HF2.out.add (f := .rd 0 w2.heap.size TL.nil (.slice ai TL.nil.len ci)) ⟨HRD.out.less (Nat.zero_le _), Nat.le_refl _⟩)
  clear HF2
  clear HRD
  go_wp2_with fail
  have HF4 := Lib.hid (HF3.out.box #[.int .i64 (kF 0).k, .int .i64 (kF 0).i, .int .i64 (kF 0).g, .string (kF 0).nm, .string (kF 0).fn, .int .i64 (kF 0).ar, .slice ai TL.nil.len ci, .string (kF 0).bs, .int .i64 (kF 0).n] 24 (n := w2.heap.size) (by rfl))
  clear HF3
  refine (ksame_eq (kF 0) .nil _ _ _ _ _ ((HF4.out.rd 1 rfl).1.more (HF4.out.rd 1 rfl).2) (RdS.nil _ _ _)).mono ?_
  rintro e w3 ⟨rfl, hb⟩
  have HF5 := Lib.hid (HF4.out.below hb)
  clear HF4
  have hz3 : w2.heap.size + 1 ≤ w3.heap.size := by have := hb.size; first | omega | (simp at this; omega)
  clear hb
  go_wp2_with fail
  go_ret
  exact ⟨rfl, (((HF5.out.base 2 rfl)).below (Nat.le_refl _) fun _ _ h => h)⟩
set_option maxRecDepth 100000 in
set_option maxHeartbeats 8000000 in
theorem back_some (l : List UInt8) (w : World) (hP : Pw w.heap.size w) (hl : l.length ≤ 20000) (f : Fd) (it : TL) (hn : readT l = some (f, it)) :
    Calls Tryd.prog 4 #[.string (ba l)] w (Yes w) := by
  have HP := Lib.hid hP
  clear hP
  have x1 : ¬ (20000 : Int) < ((ba l).size : Int) := by rw [ba_size]; omega
  have HR1 := Lib.hid fun W => read_tup l W (by omega) hn (f := f) (it := it) (k := 0) rfl rfl rfl
  obtain ⟨e1, hv, hi, hii⟩ := readT_some hn
  have htm := read_tame hn (by omega)
  have HTM := Lib.hid htm
  have HV := Lib.hid hv
  have HT := Lib.hid fun (ai : Option Addr) (ci : Nat) W A B (hs : RdS W A B it (.slice ai it.len ci)) (hB : B ≤ W.heap.size) hP => (term_c f it ai ci A B W HTM.out hi hii hs hB hP HV.out).mono fun e w' h => (show e = .returned (.tuple #[.string (ba l), .int .i64 0]) ∧ Below _ _ w' by rw [e1] at h; exact h)
  clear hn hv hi hii htm e1
  have HF0 := Lib.hid (show Bq w [.base (fun _ => False) w] from ⟨Ch.refl _ _, trivial⟩)
  go_enter Tryd.func4, Tryd.ntmps4
  go_wp2_with fail
  refine (shown6_any _ (HP.out.below (((HF0.out.base 0 rfl)).below (Nat.le_refl _) fun _ _ h => h))).mono ?_
  rintro e w1 ⟨rfl, hb⟩
  have HF1 := Lib.hid (HF0.out.below hb)
  clear HF0
  have hz1 : w.heap.size ≤ w1.heap.size := by have := hb.size; first | omega | (simp at this; omega)
  clear hb
  go_wp2_with fail
  refine (HR1.out _).mono ?_
  rintro e w2 ⟨ai, ci, rfl, hrd, hb⟩
  have HF2 := Lib.hid (HF1.out.below hb)
  clear HF1
  have hz2 : w1.heap.size ≤ w2.heap.size := by have := hb.size; first | omega | (simp at this; omega)
  clear hb
  have HRD := Lib.hid hrd
  clear hrd
  have HF3 := Lib.hid (HF2.out.add (f := .rd 0 w2.heap.size it (.slice ai it.len ci)) ⟨HRD.out.less (Nat.zero_le _), Nat.le_refl _⟩)
  clear HF2
  clear HRD
  go_wp2_with fail
  have HF4 := Lib.hid (HF3.out.box #[.int .i64 f.k, .int .i64 f.i, .int .i64 f.g, .string f.nm, .string f.fn, .int .i64 f.ar, .slice ai it.len ci, .string f.bs, .int .i64 f.n] 24 (n := w2.heap.size) (by rfl))
  clear HF3
  refine (HT.out _ _ _ _ _ (HF4.out.rd 1 rfl).1 (HF4.out.rd 1 rfl).2 (HP.out.below (((HF4.out.base 2 rfl)).below (Nat.le_refl _) fun _ _ h => h))).mono ?_
  rintro e w3 ⟨rfl, hb⟩
  have HF5 := Lib.hid (HF4.out.below hb)
  clear HF4
  have hz3 : w2.heap.size + 1 ≤ w3.heap.size := by have := hb.size; first | omega | (simp at this; omega)
  clear hb
  obtain ⟨c0, c1, c2, c3, c4, c5, c6, c7, c8, -⟩ := nine_cells (HF5.out.blk 0 rfl)
  have hv0 := lt_of_block (HF5.out.blk 0 rfl)
  go_wp2_with fail
  refine (valid_c _ f it _ _ _ _ HTM.out (HF5.out.rd 1 rfl).1 (HF5.out.rd 1 rfl).2 HV.out).mono ?_
  rintro e w4 ⟨rfl, hb⟩
  have HF6 := Lib.hid (HF5.out.below hb)
  clear HF5
  have hz4 : w3.heap.size ≤ w4.heap.size := by have := hb.size; first | omega | (simp at this; omega)
  clear hb
  clear c0 c1 c2 c3 c4 c5 c6 c7 c8 hv0
  go_wp2_with fail
  go_ret
  exact ⟨rfl, (((HF6.out.base 2 rfl)).below (Nat.le_refl _) fun _ _ h => h)⟩
end Go.Proofs.YtgfodedmcjkmaaaDoor
