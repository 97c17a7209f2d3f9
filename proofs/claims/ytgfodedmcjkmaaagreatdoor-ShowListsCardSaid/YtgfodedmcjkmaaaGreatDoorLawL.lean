/-
  Walks: the law ShowLists.
-/
import Derived.Test.YtgfodedmcjkmaaaGreatDoorLawT
namespace Go.Proofs.YtgfodedmcjkmaaaGreatDoor
open Go.RowKit Go.Proofs.BitsM
theorem lr_some (l : TL) : ∃ sx ex, listR l = .tuple #[.string sx, .int .i64 ex] := by
  unfold listR; split
  · exact ⟨_, _, rfl⟩
  · exact ⟨_, _, rfl⟩
set_option maxRecDepth 100000 in
set_option maxHeartbeats 8000000 in
theorem lists_many (l : TL) (ai : Option Addr) (ci : Nat) (w : World) (hP : Pw w.heap.size w) (hs : RdS w 0 w.heap.size l (.slice ai l.len ci)) (hm : 200 < l.len) :
    Calls Tryz.prog 5 #[.slice ai l.len ci] w (Yes w) := by
  have HP := Lib.hid hP
  clear hP
  have hm1 : (200 : Int) < (l.len : Int) := by omega
  have HF0 := Lib.hid (show Bq w [.rd 0 w.heap.size l (.slice ai l.len ci), .base (fun _ => False) w] from ⟨⟨hs, Nat.le_refl _⟩, Ch.refl _ _, trivial⟩)
  clear hs
  go_enter Tryz.func5, Tryz.ntmps5
  go_wp2_with fail
  refine (shown6_any _ (HP.out.below (((HF0.out.base 1 rfl)).below (Nat.le_refl _) fun _ _ h => h))).mono ?_
  rintro e w1 ⟨rfl, hb⟩
  have HF1 := Lib.hid (HF0.out.below hb)
  clear HF0
  have hz1 : w.heap.size ≤ w1.heap.size := by have := hb.size; first | omega | (simp at this; omega)
  clear hb
  go_wp2_with fail
  go_ret
  exact ⟨rfl, (((HF1.out.base 1 rfl)).below (Nat.le_refl _) fun _ _ h => h)⟩
set_option maxRecDepth 100000 in
set_option maxHeartbeats 8000000 in
theorem lists_great (l : TL) (ai : Option Addr) (ci : Nat) (w : World) (hP : Pw w.heap.size w) (hs : RdS w 0 w.heap.size l (.slice ai l.len ci)) (hm : l.len ≤ 200) (hg : leftF l 6000 < 0) :
    Calls Tryz.prog 5 #[.slice ai l.len ci] w (Yes w) := by
  have HP := Lib.hid hP
  clear hP
  have HG := Lib.hid hg
  clear hg
  have hm1 : ¬ (200 : Int) < (l.len : Int) := by omega
  have HF0 := Lib.hid (show Bq w [.rd 0 w.heap.size l (.slice ai l.len ci), .base (fun _ => False) w] from ⟨⟨hs, Nat.le_refl _⟩, Ch.refl _ _, trivial⟩)
  clear hs
  go_enter Tryz.func5, Tryz.ntmps5
  go_wp2_with fail
  refine (shown6_any _ (HP.out.below (((HF0.out.base 1 rfl)).below (Nat.le_refl _) fun _ _ h => h))).mono ?_
  rintro e w1 ⟨rfl, hb⟩
  have HF1 := Lib.hid (HF0.out.below hb)
  clear HF0
  have hz1 : w.heap.size ≤ w1.heap.size := by have := hb.size; first | omega | (simp at this; omega)
  clear hb
  go_wp2_with fail
  all_goals (try (exfalso; omega))
  refine (gr_yes _ _ _ _ _ _ (HF1.out.rd 0 rfl).1 (HF1.out.rd 0 rfl).2 (by decide) (by decide) HG.out).mono ?_
  rintro e w2 ⟨rfl, hb⟩
  have HF2 := Lib.hid (HF1.out.below hb)
  clear HF1
  have hz2 : w1.heap.size ≤ w2.heap.size := by have := hb.size; first | omega | (simp at this; omega)
  clear hb
  go_wp2_with fail
  go_ret
  exact ⟨rfl, (((HF2.out.base 1 rfl)).below (Nat.le_refl _) fun _ _ h => h)⟩
set_option maxRecDepth 100000 in
set_option maxHeartbeats 8000000 in
theorem lists_main (l : TL) (ai : Option Addr) (ci : Nat) (w : World) (hP : Pw w.heap.size w) (hs : RdS w 0 w.heap.size l (.slice ai l.len ci)) (hm : l.len ≤ 200) (hi : l.iok) (hg : 0 ≤ leftF l 6000) :
    Calls Tryz.prog 5 #[.slice ai l.len ci] w (Yes w) := by
  have HP := Lib.hid hP
  clear hP
  obtain ⟨hcn, hsm⟩ := leftF_cnt _ _ hg
  have HCN := Lib.hid (show l.cnt ≤ 6000 from by omega)
  have HSM := Lib.hid (TL.small_mono (m' := 1000000) (by decide) _ hsm)
  have HI := Lib.hid hi
  clear hcn hsm hi
  have HG := Lib.hid hg
  clear hg
  have hm1 : ¬ (200 : Int) < (l.len : Int) := by omega
  have HF0 := Lib.hid (show Bq w [.rd 0 w.heap.size l (.slice ai l.len ci), .base (fun _ => False) w] from ⟨⟨hs, Nat.le_refl _⟩, Ch.refl _ _, trivial⟩)
  clear hs
  go_enter Tryz.func5, Tryz.ntmps5
  go_wp2_with fail
  refine (shown6_any _ (HP.out.below (((HF0.out.base 1 rfl)).below (Nat.le_refl _) fun _ _ h => h))).mono ?_
  rintro e w1 ⟨rfl, hb⟩
  have HF1 := Lib.hid (HF0.out.below hb)
  clear HF0
  have hz1 : w.heap.size ≤ w1.heap.size := by have := hb.size; first | omega | (simp at this; omega)
  clear hb
  go_wp2_with fail
  all_goals (try (exfalso; omega))
  refine (gr_no _ _ _ _ _ _ (HF1.out.rd 0 rfl).1 (HF1.out.rd 0 rfl).2 (by decide) (by decide) HG.out).mono ?_
  rintro e w2 ⟨rfl, hb⟩
  have HF2 := Lib.hid (HF1.out.below hb)
  clear HF1
  have hz2 : w1.heap.size ≤ w2.heap.size := by have := hb.size; first | omega | (simp at this; omega)
  clear hb
  go_wp2_with fail
  refine ((lend_all l.cnt).2 l _ _ 0 w.heap.size (Nat.le_refl _) (by have := HCN.out; omega) (HF2.out.rd 0 rfl).1 (HF2.out.rd 0 rfl).2).mono ?_
  rintro e w3 ⟨aj, cj, rfl, hk, hb⟩
  have HK1 := Lib.hid hk
  clear hk
  have HF3 := Lib.hid (HF2.out.below hb)
  clear HF2
  have hz3 : w2.heap.size ≤ w3.heap.size := by have := hb.size; first | omega | (simp at this; omega)
  clear hb
  have hzw : w.heap.size ≤ w3.heap.size := by omega
  obtain ⟨sx, ex, hR⟩ := lr_some l
  have HR := Lib.hid hR
  clear hR
  go_wp2_with fail
  refine ((List_any l _ _ _ _ (Nat.le_trans HCN.out (by decide)) HSM.out HI.out HK1.out.nws.rds (by omega) (HP.out.below (((HF3.out.base 1 rfl)).below (Nat.le_refl _) fun _ _ h => h))).mono fun e w' h => (show e = .returned (.tuple #[.string sx, .int .i64 ex]) ∧ Below _ _ w' from ⟨h.1.trans (by rw [HR.out]), h.2⟩)).mono ?_
  rintro e w4 ⟨rfl, hb⟩
  have HK2 := Lib.hid (HK1.out.below hb (by omega) (by omega))
  clear HK1
  have HF4 := Lib.hid (HF3.out.below hb)
  clear HF3
  have hz4 : w3.heap.size ≤ w4.heap.size := by have := hb.size; first | omega | (simp at this; omega)
  clear hb
  go_wp2_with fail
  refine ((rList_any l _ _ _ _ (Nat.le_trans HCN.out (by decide)) HSM.out HI.out (HF4.out.rd 0 rfl).1 (HF4.out.rd 0 rfl).2).mono fun e w' h => (show e = .returned (.tuple #[.string sx, .int .i64 ex]) ∧ Below _ _ w' from ⟨h.1.trans (by rw [HR.out]), h.2⟩)).mono ?_
  rintro e w5 ⟨rfl, hb⟩
  have HK3 := Lib.hid (HK2.out.below hb (by omega) (by omega))
  clear HK2
  have HF5 := Lib.hid (HF4.out.below hb)
  clear HF4
  have hz5 : w4.heap.size ≤ w5.heap.size := by have := hb.size; first | omega | (simp at this; omega)
  clear hb
  go_wp2_with fail
  refine ((kept_all l.cnt).2 l _ _ _ _ _ _ _ (Nat.le_refl _) HK3.out (by omega) (by omega)).mono ?_
  rintro e w6 ⟨rfl, hb⟩
  have HF6 := Lib.hid (HF5.out.below hb)
  clear HF5
  have hz6 : w5.heap.size ≤ w6.heap.size := by have := hb.size; first | omega | (simp at this; omega)
  clear hb
  go_wp2_with fail
  go_ret
  exact ⟨rfl, (((HF6.out.base 1 rfl)).below (Nat.le_refl _) fun _ _ h => h)⟩
end Go.Proofs.YtgfodedmcjkmaaaGreatDoor
