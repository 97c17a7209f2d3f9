/-
  Walks: the reference's Whole, Check, Valid and Size, of any size.
-/
import Derived.Test.YtgfodedmcjkmaaaDoorFormed
namespace Go.Proofs.YtgfodedmcjkmaaaDoor
open Go.RowKit
open Go.Proofs.BitsM
def WholeC (m : Nat) : Prop := ∀ (f : Fd) (it : TL) (iv : Value) (w : World) (A B : Nat), it.cnt ≤ m → m ≤ 1000000 → formT f it = true → RdS w A B it iv → B ≤ w.heap.size → Calls Tryd.prog 30 #[.agg #[.int .i64 f.k, .int .i64 f.i, .int .i64 f.g, .string f.nm, .string f.fn, .int .i64 f.ar, iv, .string f.bs, .int .i64 f.n]] w fun e w' => e = .returned (.int .i64 (wholeT f it : Nat)) ∧ Below w.heap.size w w'
theorem form_drop {l : TL} {k : Nat} {f : Fd} {it r : TL} (h : formL (l.drop k) = true) (hd : l.drop k = .cons f it r) : formT f it = true ∧ formL r = true := by
  rw [hd, formL_cons, Bool.and_eq_true] at h; exact h
theorem whole_drop {l : TL} {k : Nat} {f : Fd} {it r : TL} (hd : l.drop k = .cons f it r) : wholeL (l.drop k) = wholeT f it + wholeL r := by rw [hd, wholeL_cons]
set_option maxHeartbeats 4000000 in
theorem whole_k9 (m : Nat) (hS : ∀ j, j < m → WholeC j) (f : Fd) (it : TL) (iv : Value) (w : World) (A B : Nat) (hm : it.cnt ≤ m) (hmx : m ≤ 1000000) (hfm : formT f it = true) (hs : RdS w A B it iv) (hB : B ≤ w.heap.size) (hk : f.k = 9) :
    Calls Tryd.prog 30 #[.agg #[.int .i64 f.k, .int .i64 f.i, .int .i64 f.g, .string f.nm, .string f.fn, .int .i64 f.ar, iv, .string f.bs, .int .i64 f.n]] w fun e w' => e = .returned (.int .i64 (wholeT f it : Nat)) ∧ Below w.heap.size w w' := by
  have HK := Lib.hid hk
  obtain ⟨ao, cap, rfl, hcap, hmax, hr⟩ := hs
  have hlc := TL.len_le_cnt it
  unfold maxLen at hmax
  have HR := Lib.hid hr
  have HS := Lib.hid hS
  have hwt := wholeT_le hfm
  have hwt2 : wholeT f it ≤ 260000260 := by omega
  have HFM := Lib.hid hfm
  have HW := Lib.hid (show baseN f it.len + wholeL it = wholeT f it from rfl)
  have HFL := Lib.hid (form_node hfm).2
  have HOK := Lib.hid (node_ok (form_node hfm).1)
  clear hr hS hfm hwt hk
  have x9 : (f.k == 9) = true := by rw [HK.out]; rfl
  have hl2 : 2 ≤ it.len := (ok_list HOK.out HK.out).1
  have hb9 : baseN f it.len = it.len - 1 := by unfold baseN; rw [if_pos HK.out]
  rw [hb9] at HW
  clear hb9
  generalize wholeT f it = W at HW hwt2 ⊢
  go_enter Tryd.func30, Tryd.ntmps30
  go_wp2_with fail
  go_loopw [3, 4] (fun n i wr => ∃ k s : Nat, k ≤ it.len ∧ i = .int .i64 k ∧ n = .int .i64 s ∧ Hid (s + wholeL (it.drop k) = W) ∧ Hid (formL (it.drop k) = true) ∧ Hid (wr.heap[w.heap.size]? = some (.cells #[.int .i64 f.k, .int .i64 f.i, .int .i64 f.g, .string f.nm, .string f.fn, .int .i64 f.ar, .slice ao it.len cap, .string f.bs, .int .i64 f.n] 24 (0, 0))) ∧ Hid (Below w.heap.size w wr)) (fun _ i _ => it.len - (intOf i).toNat)
  case atStart => exact ⟨0, it.len - 1, Nat.zero_le _, rfl, by go_num, Lib.hid (by rw [TL.drop_zero]; exact HW.out), Lib.hid (by rw [TL.drop_zero]; exact HFL.out), Lib.hid (heap_alloc_new _ _), Lib.hid (below_alloc _ _)⟩
  case round =>
    obtain ⟨k, s, hk, rfl, rfl, HE, HD, HX, HB⟩ := hrel
    have b0 : wr.cell? ⟨w.heap.size, 0, none⟩ = some _ := cells_of HX.out 0
    have b1 : wr.cell? ⟨w.heap.size, 1, none⟩ = some _ := cells_of HX.out 1
    have b2 : wr.cell? ⟨w.heap.size, 2, none⟩ = some _ := cells_of HX.out 2
    have b3 : wr.cell? ⟨w.heap.size, 3, none⟩ = some _ := cells_of HX.out 3
    have b4 : wr.cell? ⟨w.heap.size, 4, none⟩ = some _ := cells_of HX.out 4
    have b5 : wr.cell? ⟨w.heap.size, 5, none⟩ = some _ := cells_of HX.out 5
    have b6 : wr.cell? ⟨w.heap.size, 6, none⟩ = some _ := cells_of HX.out 6
    have b7 : wr.cell? ⟨w.heap.size, 7, none⟩ = some _ := cells_of HX.out 7
    have b8 : wr.cell? ⟨w.heap.size, 8, none⟩ = some _ := cells_of HX.out 8
    have hsW : s ≤ 260000260 := by have := HE.out; omega
    by_cases hlt : k < it.len
    · have hlt' : (k : Int) < (it.len : Int) := by omega
      obtain ⟨f2, it2, e1⟩ := TL.drop_at it k hlt
      obtain ⟨b, o, rfl, hrd⟩ := HR.out (by intro e; rw [e] at hlt; simp [TL.len] at hlt)
      obtain ⟨hb, ai2, ci2, ⟨c0, c1, c2, c3, c4, c5, c6, c7, c8⟩, hit⟩ := Rd.nine hrd e1 (below_cells HB.out hB)
      have hcnt : it2.cnt < m := by
        have h1 := TL.cnt_drop it k
        rw [e1] at h1
        simp only [TL.cnt] at h1
        omega
      obtain ⟨hf2, hf3⟩ := form_drop HD.out e1
      have hcall := HS.out it2.cnt hcnt f2 it2 (.slice ai2 it2.len ci2) wr A B (Nat.le_refl _) (by omega) hf2 hit (Nat.le_trans hB HB.out.size)
      have hwd := whole_drop e1
      have hsW2 : s + wholeT f2 it2 ≤ 260000260 := by have := HE.out; omega
      have HE2 := Lib.hid (show s + wholeT f2 it2 + wholeL (it.drop (k + 1)) = W by have := HE.out; omega)
      have HD2 := Lib.hid hf3
      generalize wholeT f2 it2 = c at hcall hsW2 HE2
      have HCall := Lib.hid hcall
      clear hrd hit hcall e1 hf2 hf3 hwd
      go_wp2_with fail
      refine HCall.out.mono ?_
      rintro e w3 ⟨rfl, hb3⟩
      have HX3 := Lib.hid (keepB hb3 HX.out)
      have HB3 := Lib.hid (bstep HB.out hb3)
      clear hb3 c0 c1 c2 c3 c4 c5 c6 c7 c8 b0 b1 b2 b3 b4 b5 b6 b7 b8
      go_wp2_with fail
      refine ⟨⟨k + 1, s + c, by omega, by go_num, by go_num, HE2, HD2, HX3, HB3⟩, by simp only [intOf]; omega⟩
    · have hlt' : ¬ (k : Int) < (it.len : Int) := by omega
      have HF := Lib.hid (show s = W by have := HE.out; rw [TL.drop_len it k (by omega)] at this; simpa [wholeL] using this)
      go_wp2_with fail
      go_ret
      exact ⟨by rw [← HF.out]; rfl, HB.out⟩
set_option maxHeartbeats 4000000 in
theorem whole_k10 (m : Nat) (hS : ∀ j, j < m → WholeC j) (f : Fd) (it : TL) (iv : Value) (w : World) (A B : Nat) (hm : it.cnt ≤ m) (hmx : m ≤ 1000000) (hfm : formT f it = true) (hs : RdS w A B it iv) (hB : B ≤ w.heap.size) (hk : f.k = 10) :
    Calls Tryd.prog 30 #[.agg #[.int .i64 f.k, .int .i64 f.i, .int .i64 f.g, .string f.nm, .string f.fn, .int .i64 f.ar, iv, .string f.bs, .int .i64 f.n]] w fun e w' => e = .returned (.int .i64 (wholeT f it : Nat)) ∧ Below w.heap.size w w' := by
  have HK := Lib.hid hk
  obtain ⟨ao, cap, rfl, hcap, hmax, hr⟩ := hs
  have hlc := TL.len_le_cnt it
  unfold maxLen at hmax
  have HR := Lib.hid hr
  have HS := Lib.hid hS
  have hwt := wholeT_le hfm
  have hwt2 : wholeT f it ≤ 260000260 := by omega
  have HFM := Lib.hid hfm
  have HW := Lib.hid (show baseN f it.len + wholeL it = wholeT f it from rfl)
  have HFL := Lib.hid (form_node hfm).2
  have HOK := Lib.hid (node_ok (form_node hfm).1)
  clear hr hS hfm hwt hk
  have x9 : (f.k == 9) = false := by rw [HK.out]; rfl
  have x10 : (f.k == 10) = true := by rw [HK.out]; rfl
  have hn := ok_bits HOK.out HK.out
  obtain ⟨hn0, hn1, -⟩ := hn
  have hb9 : baseN f it.len = 1 + (f.n.toNat + 63) / 64 := by unfold baseN; rw [HK.out]; rfl
  rw [hb9] at HW
  clear hb9
  generalize wholeT f it = W at HW hwt2 ⊢
  go_enter Tryd.func30, Tryd.ntmps30
  go_wp2_with fail
  go_loopw [3, 4] (fun n i wr => ∃ k s : Nat, k ≤ it.len ∧ i = .int .i64 k ∧ n = .int .i64 s ∧ Hid (s + wholeL (it.drop k) = W) ∧ Hid (formL (it.drop k) = true) ∧ Hid (wr.heap[w.heap.size]? = some (.cells #[.int .i64 f.k, .int .i64 f.i, .int .i64 f.g, .string f.nm, .string f.fn, .int .i64 f.ar, .slice ao it.len cap, .string f.bs, .int .i64 f.n] 24 (0, 0))) ∧ Hid (Below w.heap.size w wr)) (fun _ i _ => it.len - (intOf i).toNat)
  case atStart => exact ⟨0, 1 + (f.n.toNat + 63) / 64, Nat.zero_le _, rfl, by go_num, Lib.hid (by rw [TL.drop_zero]; exact HW.out), Lib.hid (by rw [TL.drop_zero]; exact HFL.out), Lib.hid (heap_alloc_new _ _), Lib.hid (below_alloc _ _)⟩
  case round =>
    obtain ⟨k, s, hk, rfl, rfl, HE, HD, HX, HB⟩ := hrel
    have b0 : wr.cell? ⟨w.heap.size, 0, none⟩ = some _ := cells_of HX.out 0
    have b1 : wr.cell? ⟨w.heap.size, 1, none⟩ = some _ := cells_of HX.out 1
    have b2 : wr.cell? ⟨w.heap.size, 2, none⟩ = some _ := cells_of HX.out 2
    have b3 : wr.cell? ⟨w.heap.size, 3, none⟩ = some _ := cells_of HX.out 3
    have b4 : wr.cell? ⟨w.heap.size, 4, none⟩ = some _ := cells_of HX.out 4
    have b5 : wr.cell? ⟨w.heap.size, 5, none⟩ = some _ := cells_of HX.out 5
    have b6 : wr.cell? ⟨w.heap.size, 6, none⟩ = some _ := cells_of HX.out 6
    have b7 : wr.cell? ⟨w.heap.size, 7, none⟩ = some _ := cells_of HX.out 7
    have b8 : wr.cell? ⟨w.heap.size, 8, none⟩ = some _ := cells_of HX.out 8
    have hsW : s ≤ 260000260 := by have := HE.out; omega
    by_cases hlt : k < it.len
    · have hlt' : (k : Int) < (it.len : Int) := by omega
      obtain ⟨f2, it2, e1⟩ := TL.drop_at it k hlt
      obtain ⟨b, o, rfl, hrd⟩ := HR.out (by intro e; rw [e] at hlt; simp [TL.len] at hlt)
      obtain ⟨hb, ai2, ci2, ⟨c0, c1, c2, c3, c4, c5, c6, c7, c8⟩, hit⟩ := Rd.nine hrd e1 (below_cells HB.out hB)
      have hcnt : it2.cnt < m := by
        have h1 := TL.cnt_drop it k
        rw [e1] at h1
        simp only [TL.cnt] at h1
        omega
      obtain ⟨hf2, hf3⟩ := form_drop HD.out e1
      have hcall := HS.out it2.cnt hcnt f2 it2 (.slice ai2 it2.len ci2) wr A B (Nat.le_refl _) (by omega) hf2 hit (Nat.le_trans hB HB.out.size)
      have hwd := whole_drop e1
      have hsW2 : s + wholeT f2 it2 ≤ 260000260 := by have := HE.out; omega
      have HE2 := Lib.hid (show s + wholeT f2 it2 + wholeL (it.drop (k + 1)) = W by have := HE.out; omega)
      have HD2 := Lib.hid hf3
      generalize wholeT f2 it2 = c at hcall hsW2 HE2
      have HCall := Lib.hid hcall
      clear hrd hit hcall e1 hf2 hf3 hwd
      go_wp2_with fail
      refine HCall.out.mono ?_
      rintro e w3 ⟨rfl, hb3⟩
      have HX3 := Lib.hid (keepB hb3 HX.out)
      have HB3 := Lib.hid (bstep HB.out hb3)
      clear hb3 c0 c1 c2 c3 c4 c5 c6 c7 c8 b0 b1 b2 b3 b4 b5 b6 b7 b8
      go_wp2_with fail
      refine ⟨⟨k + 1, s + c, by omega, by go_num, by go_num, HE2, HD2, HX3, HB3⟩, by simp only [intOf]; omega⟩
    · have hlt' : ¬ (k : Int) < (it.len : Int) := by omega
      have HF := Lib.hid (show s = W by have := HE.out; rw [TL.drop_len it k (by omega)] at this; simpa [wholeL] using this)
      go_wp2_with fail
      go_ret
      exact ⟨by rw [← HF.out]; rfl, HB.out⟩
set_option maxHeartbeats 4000000 in
theorem whole_k0 (m : Nat) (hS : ∀ j, j < m → WholeC j) (f : Fd) (it : TL) (iv : Value) (w : World) (A B : Nat) (hm : it.cnt ≤ m) (hmx : m ≤ 1000000) (hfm : formT f it = true) (hs : RdS w A B it iv) (hB : B ≤ w.heap.size) (hk : f.k ≠ 9 ∧ f.k ≠ 10) :
    Calls Tryd.prog 30 #[.agg #[.int .i64 f.k, .int .i64 f.i, .int .i64 f.g, .string f.nm, .string f.fn, .int .i64 f.ar, iv, .string f.bs, .int .i64 f.n]] w fun e w' => e = .returned (.int .i64 (wholeT f it : Nat)) ∧ Below w.heap.size w w' := by
  have HK := Lib.hid hk
  obtain ⟨ao, cap, rfl, hcap, hmax, hr⟩ := hs
  have hlc := TL.len_le_cnt it
  unfold maxLen at hmax
  have HR := Lib.hid hr
  have HS := Lib.hid hS
  have hwt := wholeT_le hfm
  have hwt2 : wholeT f it ≤ 260000260 := by omega
  have HFM := Lib.hid hfm
  have HW := Lib.hid (show baseN f it.len + wholeL it = wholeT f it from rfl)
  have HFL := Lib.hid (form_node hfm).2
  have HOK := Lib.hid (node_ok (form_node hfm).1)
  clear hr hS hfm hwt hk
  have x9 : (f.k == 9) = false := by simpa using HK.out.1
  have x10 : (f.k == 10) = false := by simpa using HK.out.2
  have hb9 : baseN f it.len = 1 := by unfold baseN; rw [if_neg HK.out.1, if_neg HK.out.2]
  rw [hb9] at HW
  clear hb9
  generalize wholeT f it = W at HW hwt2 ⊢
  go_enter Tryd.func30, Tryd.ntmps30
  go_wp2_with fail
  go_loopw [3, 4] (fun n i wr => ∃ k s : Nat, k ≤ it.len ∧ i = .int .i64 k ∧ n = .int .i64 s ∧ Hid (s + wholeL (it.drop k) = W) ∧ Hid (formL (it.drop k) = true) ∧ Hid (wr.heap[w.heap.size]? = some (.cells #[.int .i64 f.k, .int .i64 f.i, .int .i64 f.g, .string f.nm, .string f.fn, .int .i64 f.ar, .slice ao it.len cap, .string f.bs, .int .i64 f.n] 24 (0, 0))) ∧ Hid (Below w.heap.size w wr)) (fun _ i _ => it.len - (intOf i).toNat)
  case atStart => exact ⟨0, 1, Nat.zero_le _, rfl, rfl, Lib.hid (by rw [TL.drop_zero]; exact HW.out), Lib.hid (by rw [TL.drop_zero]; exact HFL.out), Lib.hid (heap_alloc_new _ _), Lib.hid (below_alloc _ _)⟩
  case round =>
    obtain ⟨k, s, hk, rfl, rfl, HE, HD, HX, HB⟩ := hrel
    have b0 : wr.cell? ⟨w.heap.size, 0, none⟩ = some _ := cells_of HX.out 0
    have b1 : wr.cell? ⟨w.heap.size, 1, none⟩ = some _ := cells_of HX.out 1
    have b2 : wr.cell? ⟨w.heap.size, 2, none⟩ = some _ := cells_of HX.out 2
    have b3 : wr.cell? ⟨w.heap.size, 3, none⟩ = some _ := cells_of HX.out 3
    have b4 : wr.cell? ⟨w.heap.size, 4, none⟩ = some _ := cells_of HX.out 4
    have b5 : wr.cell? ⟨w.heap.size, 5, none⟩ = some _ := cells_of HX.out 5
    have b6 : wr.cell? ⟨w.heap.size, 6, none⟩ = some _ := cells_of HX.out 6
    have b7 : wr.cell? ⟨w.heap.size, 7, none⟩ = some _ := cells_of HX.out 7
    have b8 : wr.cell? ⟨w.heap.size, 8, none⟩ = some _ := cells_of HX.out 8
    have hsW : s ≤ 260000260 := by have := HE.out; omega
    by_cases hlt : k < it.len
    · have hlt' : (k : Int) < (it.len : Int) := by omega
      obtain ⟨f2, it2, e1⟩ := TL.drop_at it k hlt
      obtain ⟨b, o, rfl, hrd⟩ := HR.out (by intro e; rw [e] at hlt; simp [TL.len] at hlt)
      obtain ⟨hb, ai2, ci2, ⟨c0, c1, c2, c3, c4, c5, c6, c7, c8⟩, hit⟩ := Rd.nine hrd e1 (below_cells HB.out hB)
      have hcnt : it2.cnt < m := by
        have h1 := TL.cnt_drop it k
        rw [e1] at h1
        simp only [TL.cnt] at h1
        omega
      obtain ⟨hf2, hf3⟩ := form_drop HD.out e1
      have hcall := HS.out it2.cnt hcnt f2 it2 (.slice ai2 it2.len ci2) wr A B (Nat.le_refl _) (by omega) hf2 hit (Nat.le_trans hB HB.out.size)
      have hwd := whole_drop e1
      have hsW2 : s + wholeT f2 it2 ≤ 260000260 := by have := HE.out; omega
      have HE2 := Lib.hid (show s + wholeT f2 it2 + wholeL (it.drop (k + 1)) = W by have := HE.out; omega)
      have HD2 := Lib.hid hf3
      generalize wholeT f2 it2 = c at hcall hsW2 HE2
      have HCall := Lib.hid hcall
      clear hrd hit hcall e1 hf2 hf3 hwd
      go_wp2_with fail
      refine HCall.out.mono ?_
      rintro e w3 ⟨rfl, hb3⟩
      have HX3 := Lib.hid (keepB hb3 HX.out)
      have HB3 := Lib.hid (bstep HB.out hb3)
      clear hb3 c0 c1 c2 c3 c4 c5 c6 c7 c8 b0 b1 b2 b3 b4 b5 b6 b7 b8
      go_wp2_with fail
      refine ⟨⟨k + 1, s + c, by omega, by go_num, by go_num, HE2, HD2, HX3, HB3⟩, by simp only [intOf]; omega⟩
    · have hlt' : ¬ (k : Int) < (it.len : Int) := by omega
      have HF := Lib.hid (show s = W by have := HE.out; rw [TL.drop_len it k (by omega)] at this; simpa [wholeL] using this)
      go_wp2_with fail
      go_ret
      exact ⟨by rw [← HF.out]; rfl, HB.out⟩
theorem whole_all (m : Nat) : WholeC m := by
  induction m using Nat.strongRecOn with
  | _ m ih =>
    intro f it iv w A B hm hmx hfm hs hB
    by_cases h9 : f.k = 9
    · exact whole_k9 m ih f it iv w A B hm hmx hfm hs hB h9
    by_cases h10 : f.k = 10
    · exact whole_k10 m ih f it iv w A B hm hmx hfm hs hB h10
    exact whole_k0 m ih f it iv w A B hm hmx hfm hs hB ⟨h9, h10⟩
/-- the size bound that the laws keep -/
def tame (f : Fd) (it : TL) : Prop := it.cnt ≤ 1000000 ∧ smallT 1000000 f it
set_option maxHeartbeats 4000000 in
theorem rCheck_any (f : Fd) (it : TL) (iv : Value) (w : World) (A B : Nat) (ht : tame f it) (hs : RdS w A B it iv) (hB : B ≤ w.heap.size) :
    Calls Tryd.prog 19 #[.agg #[.int .i64 f.k, .int .i64 f.i, .int .i64 f.g, .string f.nm, .string f.fn, .int .i64 f.ar, iv, .string f.bs, .int .i64 f.n]] w fun e w' => e = .returned (.int .i64 (checkF f it)) ∧ Below w.heap.size w w' := by
  obtain ⟨hc, hsm⟩ := ht
  have h1 := fun W (hb : Below w.heap.size w W) => formed_all it.cnt f it iv W A B (Nat.le_refl _) hsm (hs.below hb hB) (Nat.le_trans hB hb.size)
  have h2 := fun (hf : formT f it = true) W (hb : Below w.heap.size w W) => whole_all it.cnt f it iv W A B (Nat.le_refl _) hc hf (hs.below hb hB) (Nat.le_trans hB hb.size)
  obtain ⟨ao, cap, rfl, -, -, -⟩ := hs
  unfold FormedR at h1
  by_cases hf : formT f it = true
  case neg =>
    have hff : formT f it = false := by simpa using hf
    have HF := Lib.hid (show checkF f it = 2 by unfold checkF; rw [hff]; rfl)
    rw [hff] at h1
    have H1 := Lib.hid h1
    clear h1 h2 hf hff
    go_enter Tryd.func19, Tryd.ntmps19
    go_wp2_with fail
    refine (H1.out _ (below_alloc _ _)).mono ?_
    rintro e w1 ⟨rfl, hb1⟩
    go_wp2_with fail
    go_ret
    exact ⟨by rw [HF.out]; rfl, bstep (below_alloc _ _) hb1⟩
  have h2 := h2 hf
  have hwt := wholeT_le hf
  have hwt2 : wholeT f it ≤ 260000260 := by omega
  have HF := Lib.hid (show checkF f it = if 2000 < wholeT f it then 3 else 0 by unfold checkF; rw [hf]; rfl)
  rw [hf] at h1
  have H1 := Lib.hid h1
  generalize wholeT f it = W at h2 hwt2 HF
  have H2 := Lib.hid h2
  clear h1 h2 hf hwt
  by_cases hw : 2000 < W
  · skip
    have hw' : (2000 : Int) < (W : Int) := by omega
    go_enter Tryd.func19, Tryd.ntmps19
    go_wp2_with fail
    refine (H1.out _ (below_alloc _ _)).mono ?_
    rintro e w1 ⟨rfl, hb1⟩
    have HX := Lib.hid (keepB hb1 (heap_alloc_new w _))
    have HB1 := Lib.hid (bstep (below_alloc _ _) hb1)
    clear hb1
    have b0 := cells_of HX.out 0
    have b1 := cells_of HX.out 1
    have b2 := cells_of HX.out 2
    have b3 := cells_of HX.out 3
    have b4 := cells_of HX.out 4
    have b5 := cells_of HX.out 5
    have b6 := cells_of HX.out 6
    have b7 := cells_of HX.out 7
    have b8 := cells_of HX.out 8
    simp only [List.getElem?_toArray, List.getElem?_cons_succ, List.getElem?_cons_zero] at b0 b1 b2 b3 b4 b5 b6 b7 b8
    go_wp2_with fail
    refine (H2.out _ HB1.out).mono ?_
    rintro e w2 ⟨rfl, hb2⟩
    go_wp2_with fail
    go_ret
    exact ⟨by rw [HF.out, if_pos hw]; rfl, bstep HB1.out hb2⟩
  · skip
    have hw' : ¬ (2000 : Int) < (W : Int) := by omega
    go_enter Tryd.func19, Tryd.ntmps19
    go_wp2_with fail
    refine (H1.out _ (below_alloc _ _)).mono ?_
    rintro e w1 ⟨rfl, hb1⟩
    have HX := Lib.hid (keepB hb1 (heap_alloc_new w _))
    have HB1 := Lib.hid (bstep (below_alloc _ _) hb1)
    clear hb1
    have b0 := cells_of HX.out 0
    have b1 := cells_of HX.out 1
    have b2 := cells_of HX.out 2
    have b3 := cells_of HX.out 3
    have b4 := cells_of HX.out 4
    have b5 := cells_of HX.out 5
    have b6 := cells_of HX.out 6
    have b7 := cells_of HX.out 7
    have b8 := cells_of HX.out 8
    simp only [List.getElem?_toArray, List.getElem?_cons_succ, List.getElem?_cons_zero] at b0 b1 b2 b3 b4 b5 b6 b7 b8
    go_wp2_with fail
    refine (H2.out _ HB1.out).mono ?_
    rintro e w2 ⟨rfl, hb2⟩
    go_wp2_with fail
    go_ret
    exact ⟨by rw [HF.out, if_neg hw]; rfl, bstep HB1.out hb2⟩
set_option maxHeartbeats 4000000 in
theorem rValid_any (f : Fd) (it : TL) (iv : Value) (w : World) (A B : Nat) (ht : tame f it) (hs : RdS w A B it iv) (hB : B ≤ w.heap.size) :
    Calls Tryd.prog 8 #[.agg #[.int .i64 f.k, .int .i64 f.i, .int .i64 f.g, .string f.nm, .string f.fn, .int .i64 f.ar, iv, .string f.bs, .int .i64 f.n]] w fun e w' => e = .returned (.bool (validF f it)) ∧ Below w.heap.size w w' := by
  have H1 := Lib.hid fun W (hb : Below w.heap.size w W) => rCheck_any f it iv W A B ht (hs.below hb hB) (Nat.le_trans hB hb.size)
  obtain ⟨ao, cap, rfl, -, -, -⟩ := hs
  have HF := Lib.hid (check_valid f it)
  generalize checkF f it = c at H1 HF
  go_enter Tryd.func8, Tryd.ntmps8
  go_wp2_with fail
  refine (H1.out _ (below_alloc _ _)).mono ?_
  rintro e w1 ⟨rfl, hb1⟩
  go_wp2_with fail
  go_ret
  exact ⟨ret_bool HF.out, bstep (below_alloc _ _) hb1⟩
end Go.Proofs.YtgfodedmcjkmaaaDoor
