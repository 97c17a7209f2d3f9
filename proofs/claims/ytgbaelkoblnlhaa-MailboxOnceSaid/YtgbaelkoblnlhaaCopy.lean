/-
  Walks: Copy and copies of terms, of any size: new memory.
-/
import Derived.Test.YtgbaelkoblnlhaaNine
import Derived.StillTailTactics
namespace Go.Proofs.Ytgbaelkoblnlhaa
open Go.RowKit
def CopyRet (f : Fd) (it : TL) (w : World) (e : Ending) (w' : World) : Prop := ∃ ai ci, e = .returned (.agg #[.int .i64 f.k, .int .i64 f.i, .int .i64 f.g, .string f.nm, .string f.fn, .int .i64 f.ar, .slice ai it.len ci, .string f.bs, .int .i64 f.n]) ∧ NwS w' w.heap.size w'.heap.size it (.slice ai it.len ci) ∧ Below w.heap.size w w'
def CopiesRet (l : TL) (w : World) (e : Ending) (w' : World) : Prop := ∃ xs, e = .returned (.slice (some ⟨w.heap.size, 0, none⟩) l.len l.len) ∧ w'.ownsRow w.heap.size 24 9 (.slice (some ⟨w.heap.size, 0, none⟩) l.len l.len) l.len xs ∧ NwR w' (w.heap.size + 1) w'.heap.size l xs ∧ Below w.heap.size w w'
theorem CopiesRet.nws {l : TL} {w w' : World} {e : Ending} (h : CopiesRet l w e w') : e = .returned (.slice (some ⟨w.heap.size, 0, none⟩) l.len l.len) ∧ NwS w' w.heap.size w'.heap.size l (.slice (some ⟨w.heap.size, 0, none⟩) l.len l.len) ∧ Below w.heap.size w w' := by
  obtain ⟨xs, e1, h1, h2, h3⟩ := h
  exact ⟨e1, NwS.of_owns h1 rfl (Nat.le_refl _) (Nat.le_refl _) (NwR.wide (by omega) (Nat.le_refl _) _ _ h2), h3⟩
def CopyC (m : Nat) : Prop := ∀ (f : Fd) (it : TL) (v : Value) (w : World) (A B : Nat), it.cnt ≤ m → m ≤ 1000000000 → RdT w A B f it v → B ≤ w.heap.size → Calls Try.prog 29 #[v] w (CopyRet f it w)
def CopiesC (m : Nat) : Prop := ∀ (l : TL) (v : Value) (w : World) (A B : Nat), l.cnt ≤ m → m ≤ 1000000000 → RdS w A B l v → B ≤ w.heap.size → Calls Try.prog 78 #[v] w (CopiesRet l w)
set_option maxHeartbeats 4000000 in
theorem copy_of (m : Nat) (hL : CopiesC m) : CopyC m := by
  intro f it v w A B hm hbig hv hB
  obtain ⟨iv, rfl, hs⟩ := hv
  have hc := fun W (hb : Below w.heap.size w W) => hL it iv W A B hm hbig (hs.below hb hB) (Nat.le_trans hB hb.size)
  obtain ⟨ao, cap, rfl, -, -, -⟩ := hs
  have HC := Lib.hid hc
  clear hc
  unfold Fd.val Fd.cells
  go_enter Try.func29, Try.ntmps29
  go_wp2_with fail
  refine (HC.out _ (balloc (below_alloc _ _) _)).mono ?_
  rintro e w2 h2
  obtain ⟨he, hn, hb2⟩ := h2.nws
  subst he
  have HA := Lib.hid (keepB hb2 (new2_0 w _ _))
  have HR := Lib.hid (keepB hb2 (new2_1 w _ _))
  have HB := Lib.hid (bstep (balloc (balloc (Below.refl _ _) _) _) hb2)
  have HN := Lib.hid hn
  have hz : w.heap.size + 2 ≤ w2.heap.size := by have := hb2.size; simp at this; omega
  clear hb2 h2 hn
  have c0 := cells_of HA.out 0
  have c1 := cells_of HA.out 1
  have c2 := cells_of HA.out 2
  have c3 := cells_of HA.out 3
  have c4 := cells_of HA.out 4
  have c5 := cells_of HA.out 5
  have c6 := cells_of HA.out 6
  have c7 := cells_of HA.out 7
  have c8 := cells_of HA.out 8
  simp only [List.getElem?_toArray, List.getElem?_cons_succ, List.getElem?_cons_zero] at c0 c1 c2 c3 c4 c5 c6 c7 c8
  have d0 := cells_of HR.out 0
  have d1 := cells_of HR.out 1
  have d2 := cells_of HR.out 2
  have d3 := cells_of HR.out 3
  have d4 := cells_of HR.out 4
  have d5 := cells_of HR.out 5
  have d6 := cells_of HR.out 6
  have d7 := cells_of HR.out 7
  have d8 := cells_of HR.out 8
  simp only [List.getElem?_toArray, List.getElem?_cons_succ, List.getElem?_cons_zero] at d0 d1 d2 d3 d4 d5 d6 d7 d8
  have fz : ∀ k, w2.frozen? ⟨w.heap.size, k, none⟩ = false := fun k => frees_of HA.out k
  have fr : ∀ k, w2.frozen? ⟨w.heap.size + 1, k, none⟩ = false := fun k => frees_of HR.out k
  simp only [World.size_alloc] at HN ⊢
  go_wp2_with fail
  refine bodyPost_ret (results_one rfl _ _ (w.heap.size + 1) _ _ _ _ _ _ _ _ _ rfl (nine_blk (blk_oth (HR.out) (by omega) _ _) _ _ _ _ _ _ _ _ _)) rfl ⟨_, _, rfl, ?_, ?_⟩
  · refine ((HN.out.keep fun k hk _ => ?_).wide (by omega) (by simp))
    repeat (rw [Below.heap_setCell _ _ _ _ (by simp only []; omega)])
  · repeat (with_reducible refine bset ?_ (by simp) _)
    exact HB.out
set_option maxHeartbeats 4000000 in
theorem copies_of (m : Nat) (hS : ∀ j, j < m → CopyC j) : CopiesC m := by
  intro l v w A B hm hbig hv hB
  obtain ⟨ao, cap, rfl, hcap, hmax, hr⟩ := hv
  have hll := TL.len_le_cnt l
  have hln : l.len ≤ 1000000000 := by omega
  unfold maxLen at hmax
  have HR := Lib.hid hr
  have HS := Lib.hid hS
  clear hr hS
  obtain ⟨i0, hi, hz0, hz1, hz2⟩ := info_parts Try.info24
  have M1 := Lib.hid (show i0.bytes * l.len ≤ 281474976710656 by rw [hz2]; omega)
  have M2 := Lib.hid (show l.len ≤ maxLen by unfold maxLen; omega)
  go_enter Try.func78, Try.ntmps78
  go_wp2_with (at_make; go_loud (refine wpList_make_own _ rfl _ _ 22 rfl w.heap.size 24 i0 zeroV 9 Try.underlying22 hi hz0 hz1 _ _ _ l.len rfl rfl rfl M1.out M2.out (Nat.le_refl _) ?_; intro w0 hown0 hgrow0))
  have HO0 := Lib.hid hown0
  have HB0 := Lib.hid ((Below.refl w.heap.size w).grown hgrow0 (Nat.le_refl _) (fun k h => by cases h))
  clear hown0 hgrow0
  go_wp2_with fail
  go_loopw [3, 11] (fun out i wr => ∃ (k : Nat) (xs : List Value), k ≤ l.len ∧ i = .int .i64 k ∧ out = .slice (some ⟨w.heap.size, 0, none⟩) k l.len ∧ Hid (wr.ownsRow w.heap.size 24 9 (.slice (some ⟨w.heap.size, 0, none⟩) k l.len) k xs) ∧ Hid (NwR wr (w.heap.size + 1) wr.heap.size (l.take k) xs) ∧ Hid (Below w.heap.size w wr)) (fun _ i _ => l.len - (intOf i).toNat)
  case atStart => exact ⟨0, [], Nat.zero_le _, rfl, rfl, HO0, Lib.hid (by rw [TL.take_zero]; exact trivial), HB0⟩
  case round =>
    obtain ⟨k, xs, hk, rfl, rfl, HO, HN, HB⟩ := hrel
    by_cases hlt : k < l.len
    · have hlt' : (k : Int) < (l.len : Int) := by omega
      obtain ⟨f, it, e1⟩ := TL.drop_at l k hlt
      obtain ⟨b, o, rfl, hrd⟩ := HR.out (by intro e; rw [e] at hlt; simp [TL.len] at hlt)
      obtain ⟨hb, ai, ci, ⟨c0, c1, c2, c3, c4, c5, c6, c7, c8⟩, hit⟩ := Rd.nine hrd e1 (below_cells HB.out hB)
      have hcnt : it.cnt < m := by
        have h1 := TL.cnt_drop l k
        rw [e1] at h1
        simp only [TL.cnt] at h1
        omega
      have hcall := fun W (hb : Below wr.heap.size wr W) => HS.out it.cnt hcnt f it (.agg #[.int .i64 f.k, .int .i64 f.i, .int .i64 f.g, .string f.nm, .string f.fn, .int .i64 f.ar, .slice ai it.len ci, .string f.bs, .int .i64 f.n]) W A B (Nat.le_refl _) (by omega) ⟨_, rfl, hit.below hb (Nat.le_trans hB HB.out.size)⟩ (Nat.le_trans (Nat.le_trans hB HB.out.size) hb.size)
      have HCall := Lib.hid hcall
      have HTake := Lib.hid (take_snoc l k f it _ e1)
      have hzr := HB.out.size
      clear hrd hit hcall e1
      go_wp2_with fail
      refine (HCall.out _ (below_alloc _ _)).mono ?_
      rintro e w2 ⟨ai2, ci2, rfl, hn2, hb2⟩
      have HN2 := Lib.hid hn2
      have HB2 := Lib.hid ((below_alloc wr _).trans (hb2.mono (by simp)))
      have hz2' : wr.heap.size + 1 ≤ w2.heap.size := by have := hb2.size; simp at this; omega
      have HO2 := Lib.hid (own_below HO.out HB2.out (Nat.le_refl _))
      clear hn2 hb2 c0 c1 c2 c3 c4 c5 c6 c7 c8
      go_wp2_with (at_builtin; refine wpList_append_fits _ rfl (.tmp 15) (.tmp 18) 22 rfl w.heap.size 24 i0 9 Try.underlying22 hi hz1 w.heap.size k l.len xs rfl (HO2.out.alloc _) ⟨w2.heap.size, 0, none⟩ 1 1 [.int .i64 f.k, .int .i64 f.i, .int .i64 f.g, .string f.nm, .string f.fn, .int .i64 f.ar, .slice ai2 it.len ci2, .string f.bs, .int .i64 f.n] rfl rfl (news_one (heap_alloc_new _ _)) (cells_one f ai2 it.len ci2) (by omega) ?_; intro w3 hown3 hgrow3)
      have hz3 : w2.heap.size ≤ w3.heap.size := by have := hgrow3.size; simp at this; omega
      refine ⟨⟨k + 1, _, by omega, by go_num, rfl, Lib.hid hown3, Lib.hid ?_, Lib.hid (below_chain HB.out HB2.out hgrow3 hzr (Nat.le_refl _))⟩, by simp only [intOf]; omega⟩
      rw [HTake.out]
      refine NwR.snoc ?_ ?_ (iv := .slice ai2 it.len ci2) ?_
      · exact NwR.wide (Nat.le_refl _) (by omega) _ _ (NwR.keep (fun j h1 h2 => grown_chain HB2.out hgrow3 j h2 (by omega)) _ _ HN.out)
      · rw [take_len _ _ hk]; exact HO.out.1
      · exact (HN2.out.keep fun j h1 h2 => grown_chain (Below.refl _ _) hgrow3 j h2 (by simp at h1; omega)).wide (by simp; omega) (by omega)
    · have hlt' : ¬ (k : Int) < (l.len : Int) := by omega
      have hkl : k = l.len := by omega
      have HK := Lib.hid hkl
      clear hkl
      go_wp2_with fail
      go_ret
      have e := HK.out
      subst e
      refine ⟨xs, rfl, HO.out, ?_, HB.out⟩
      have h := HN.out
      rwa [take_all _ _ (Nat.le_refl _)] at h
theorem copy_all (m : Nat) : CopyC m ∧ CopiesC m := by
  induction m using Nat.strongRecOn with
  | _ m ih =>
    have h := copies_of m fun j hj => (ih j hj).1
    exact ⟨copy_of m h, h⟩
end Go.Proofs.Ytgbaelkoblnlhaa
