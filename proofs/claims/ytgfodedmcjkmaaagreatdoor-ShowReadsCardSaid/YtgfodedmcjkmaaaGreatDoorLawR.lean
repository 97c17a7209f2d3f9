/-
  Walks: the law ShowReads.
-/
import Derived.Test.YtgfodedmcjkmaaaGreatDoorShowA
import Derived.Test.YtgfodedmcjkmaaaGreatDoorRrD
namespace Go.Proofs.YtgfodedmcjkmaaaGreatDoor
open Go.RowKit Go.Proofs.BitsM
theorem rread_tup (l : List UInt8) (w : World) (hl : l.length < 1000000) {o : Option (Fd × TL)} (ho : readT l = o) {f : Fd} {it : TL} {k : Int} (hf : rdF o = f) (ht : rdT o = it) (hk : rdK o = k) : Calls Tryz.prog 13 #[.string (ba l)] w (TupP f it k w) := by
  rw [read_same] at ho
  subst ho hf ht hk
  exact (rShowRead_any l w hl).mono fun _ _ h => readPost_tup h
set_option maxRecDepth 100000 in
set_option maxHeartbeats 8000000 in
theorem reads_long (l : List UInt8) (w : World) (hP : Pw w.heap.size w) (hl : 20000 < l.length) :
    Calls Tryz.prog 4 #[.string (ba l)] w (Yes w) := by
  have HP := Lib.hid hP
  clear hP
  have x1 : (20000 : Int) < ((ba l).size : Int) := by rw [ba_size]; omega
  have HF0 := Lib.hid (show Bq w [.base (fun _ => False) w] from ⟨Ch.refl _ _, trivial⟩)
  go_enter Tryz.func4, Tryz.ntmps4
  go_wp2_with fail
  refine (shown6_any _ (HP.out.below (((HF0.out.base 0 rfl)).below (Nat.le_refl _) fun _ _ h => h))).mono ?_
  rintro e w1 ⟨rfl, hb⟩
  have HF1 := Lib.hid (HF0.out.below hb)
  clear HF0
  have hz1 : w.heap.size ≤ w1.heap.size := by have := hb.size; first | omega | (simp at this; omega)
  clear hb
  go_wp2_with fail
  go_ret
  exact ⟨rfl, (((HF1.out.base 0 rfl)).below (Nat.le_refl _) fun _ _ h => h)⟩
set_option maxRecDepth 100000 in
set_option maxHeartbeats 8000000 in
theorem reads_main (l : List UInt8) (w : World) (hP : Pw w.heap.size w) (hl : l.length ≤ 20000) :
    Calls Tryz.prog 4 #[.string (ba l)] w (Yes w) := by
  have HP := Lib.hid hP
  clear hP
  have x1 : ¬ (20000 : Int) < ((ba l).size : Int) := by rw [ba_size]; omega
  have HF0 := Lib.hid (show Bq w [.base (fun _ => False) w] from ⟨Ch.refl _ _, trivial⟩)
  go_enter Tryz.func4, Tryz.ntmps4
  go_wp2_with fail
  refine (shown6_any _ (HP.out.below (((HF0.out.base 0 rfl)).below (Nat.le_refl _) fun _ _ h => h))).mono ?_
  rintro e w1 ⟨rfl, hb⟩
  have HF1 := Lib.hid (HF0.out.below hb)
  clear HF0
  have hz1 : w.heap.size ≤ w1.heap.size := by have := hb.size; first | omega | (simp at this; omega)
  clear hb
  obtain ⟨o, ho⟩ : ∃ o, readT l = o := ⟨_, rfl⟩
  obtain ⟨f, hf⟩ : ∃ f, rdF o = f := ⟨_, rfl⟩
  obtain ⟨it, hit⟩ : ∃ it, rdT o = it := ⟨_, rfl⟩
  obtain ⟨k, hk⟩ : ∃ k, rdK o = k := ⟨_, rfl⟩
  have HR1 := Lib.hid fun W => read_tup l W (by omega) ho hf hit hk
  have HR2 := Lib.hid fun W => rread_tup l W (by omega) ho hf hit hk
  clear ho hf hit hk
  go_wp2_with fail
  refine (HR1.out _).mono ?_
  rintro e w2 ⟨ai, ci, rfl, hrd, hb⟩
  have HF2 := Lib.hid (HF1.out.below hb)
  clear HF1
  have hz2 : w1.heap.size ≤ w2.heap.size := by have := hb.size; first | omega | (simp at this; omega)
  clear hb
  have HRD := Lib.hid hrd
  clear hrd
  have HF3 := Lib.hid (HF2.out.add (f := .rd 0 w2.heap.size it (.slice ai it.len ci)) ⟨HRD.out.less (Nat.zero_le _), Nat.le_refl _⟩)
  clear HF2
  clear HRD
  go_wp2_with fail
  have HF4 := Lib.hid (HF3.out.box #[.int .i64 f.k, .int .i64 f.i, .int .i64 f.g, .string f.nm, .string f.fn, .int .i64 f.ar, .slice ai it.len ci, .string f.bs, .int .i64 f.n] 24 (n := w2.heap.size) (by rfl))
  clear HF3
  refine (HR2.out _).mono ?_
  rintro e w3 ⟨aj, cj, rfl, hrd, hb⟩
  have HF5 := Lib.hid (HF4.out.below hb)
  clear HF4
  have hz3 : w2.heap.size + 1 ≤ w3.heap.size := by have := hb.size; first | omega | (simp at this; omega)
  clear hb
  have HRD := Lib.hid hrd
  clear hrd
  have HF6 := Lib.hid (HF5.out.add (f := .rd 0 w3.heap.size it (.slice aj it.len cj)) ⟨HRD.out.less (Nat.zero_le _), Nat.le_refl _⟩)
  clear HF5
  clear HRD
  obtain ⟨c0, c1, c2, c3, c4, c5, c6, c7, c8, -⟩ := nine_cells (HF6.out.blk 1 rfl)
  have hv0 := lt_of_block (HF6.out.blk 1 rfl)
  go_wp2_with fail
  have HF7 := Lib.hid (HF6.out.box #[.int .i64 f.k, .int .i64 f.i, .int .i64 f.g, .string f.nm, .string f.fn, .int .i64 f.ar, .slice aj it.len cj, .string f.bs, .int .i64 f.n] 24 (n := w3.heap.size) (by rfl))
  clear HF6
  refine (ksame_eq f it _ _ _ _ _ ((HF7.out.rd 3 rfl).1.more (HF7.out.rd 3 rfl).2) ((HF7.out.rd 1 rfl).1.more (HF7.out.rd 1 rfl).2)).mono ?_
  rintro e w4 ⟨rfl, hb⟩
  have HF8 := Lib.hid (HF7.out.below hb)
  clear HF7
  have hz4 : w3.heap.size + 1 ≤ w4.heap.size := by have := hb.size; first | omega | (simp at this; omega)
  clear hb
  clear c0 c1 c2 c3 c4 c5 c6 c7 c8 hv0
  go_wp2_with fail
  go_ret
  exact ⟨rfl, (((HF8.out.base 4 rfl)).below (Nat.le_refl _) fun _ _ h => h)⟩
end Go.Proofs.YtgfodedmcjkmaaaGreatDoor
