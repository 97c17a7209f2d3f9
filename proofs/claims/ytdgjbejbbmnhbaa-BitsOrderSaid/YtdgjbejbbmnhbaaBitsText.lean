/-
  Walks: text.
-/
import Derived.Test.YtdgjbejbbmnhbaaBitsMath7
import Derived.Test.YtdgjbejbbmnhbaaBitsRPut
import Derived.Test.YtdgjbejbbmnhbaaBitsGet
namespace Go.Proofs.Ytdgjbejbbmnhbaa
open Go.RowKit Go.Proofs.BitsM
def txRow (X : List Bool) (k : Nat) : List Nat := (List.range X.length).map fun i => if i < k then 48 + (X.getD i false).toNat else 0
theorem txRow_zero (X : List Bool) : txRow X 0 = List.replicate X.length 0 := by
  apply List.ext_getElem <;> simp [txRow]
@[simp] theorem txRow_length (X : List Bool) (k : Nat) : (txRow X k).length = X.length := by simp [txRow]
theorem txRow_succ (X : List Bool) (k : Nat) : txRow X (k + 1) = (txRow X k).set k (48 + (X.getD k false).toNat) := by
  apply List.ext_getElem
  · simp [txRow]
  · intro i h1 h2
    simp only [txRow, List.getElem_map, List.getElem_range, List.getElem_set]
    by_cases e : k = i
    · subst e; simp
    · rw [if_neg e]
      by_cases h3 : i < k
      · rw [if_pos h3, if_pos (by omega)]
      · rw [if_neg h3, if_neg (by omega)]
theorem txRow_all (X : List Bool) : txRow X X.length = X.map fun b => 48 + b.toNat := by
  apply List.ext_getElem
  · simp
  · intro i h1 h2
    simp only [List.length_map] at h2
    simp only [txRow, List.getElem_map, List.getElem_range, if_pos h2, List.getD, List.getElem?_eq_getElem h2, Option.getD_some]
def txS (X : List Bool) : ByteArray := bytesS (X.map fun b => 48 + b.toNat)
theorem txS_data (X : List Bool) : (txS X).data.toList = textB X := by
  unfold txS bytesS textB
  rw [strOfNums_data, List.map_map, List.map_map]
  apply List.map_congr_left
  intro b _
  cases b <;> rfl
theorem made_tx (X : List Bool) : (madeCells #[Value.int .u8 0] X.length).toList = u8s (txRow X 0) := by
  rw [txRow_zero, toList_madeCells_one]
  simp [u8s]
set_option maxHeartbeats 2000000 in
theorem text_any (X : List Bool) (N : Nat) (hN : X.length = N) (h64 : N ≤ 32768) (w : World) :
    Calls Try.prog 34 #[.agg #[.string (packS X), .int .i64 N]] w fun e w' => e = .returned (.string (txS X)) ∧ Below w.heap.size w w' := by
  have hLs := fun W => List_any (packS X) N (by rw [packS_size]; omega) (by rw [packS_size]; omega) W
  have hall := bitsB_all X
  rw [hN] at hall
  rw [hall] at hLs
  have HLs := Lib.hid hLs
  have HN := Lib.hid hN
  clear hLs hall hN
  obtain ⟨i0, hi, hz0, hz1, hz2⟩ := info_parts Try.info5
  generalize packS X = s at *
  go_enter Try.func34, Try.ntmps34
  go_wp2_with fail
  refine (HLs.out _).mono ?_
  rintro e w1 ⟨v1, rfl, ho1, hb1⟩
  obtain ⟨ao, cap, rfl, -, -, hao⟩ := own_shape2 ho1
  have HO1 := Lib.hid ho1
  have HA := Lib.hid hao
  have HB1 := Lib.hid (bstep (below_alloc _ _) hb1)
  clear ho1 hao hb1
  go_wp2_with (first
    | (refine wpList_make_full _ rfl _ _ 56 rfl w1.heap.size 5 i0 (.int .u8 0) 1 Try.underlying56 hi hz0 hz1 .i64 .i64 _ _ N rfl rfl rfl rfl (by rw [hz2]; omega) (by rw [maxLen_val]; omega) (by simp) ?_))
  intro w2 hown hgrow
  have HO2 := Lib.hid (show w2.ownsRow w1.heap.size 5 1 (.slice (some ⟨w1.heap.size, 0, none⟩) N N) N (u8s (txRow X 0)) by
    have h := made_tx X
    rw [HN.out] at h
    rw [← h]; exact hown)
  have HB12 := Lib.hid ((Below.refl w1.heap.size w1).grown hgrow (Nat.le_refl _) (by simp))
  have HL2 := Lib.hid (own_below HO1.out HB12.out)
  have HB2 := Lib.hid (bstep HB1.out HB12.out)
  clear hown hgrow
  go_wp2_with fail
  go_loopw [5] (fun i wr => ∃ k : Nat, k ≤ N ∧ i = .int .i64 k ∧ Hid (wr.ownsRow w1.heap.size 5 1 (.slice (some ⟨w1.heap.size, 0, none⟩) N N) N (u8s (txRow X k))) ∧ Hid (Below w1.heap.size w1 wr)) (fun i _ => N - (intOf i).toNat)
  case atStart => exact ⟨0, by omega, rfl, HO2, HB12⟩
  case round =>
    obtain ⟨k, hk, rfl, HR, HBw⟩ := hrel
    by_cases hlt : k < N
    · have hlt' : (k : Int) < (N : Int) := by omega
      obtain ⟨g, rfl, hg⟩ := HA.out (by omega)
      have cx := own_cell (own_below HO1.out HBw.out) k hlt
      rw [show (((b01 X).map (Value.int .i64))[k]?) = some (.int .i64 (((X.getD k false).toNat : Nat) : Int)) by
        have hx : k < X.length := by rw [HN.out]; exact hlt
        simp only [b01, List.map_map, List.getElem?_map, List.getElem?_eq_getElem hx, List.getD, Option.map_some, Option.getD_some, Function.comp]] at cx
      have hx1 : (X.getD k false).toNat ≤ 1 := by cases X.getD k false <;> simp
      generalize hgx : (X.getD k false).toNat = x at cx hx1
      have HGX := Lib.hid hgx
      clear hgx
      have c1 := HR.out.cellAt k (by omega)
      have f1 := HR.out.frozenAt k
      rw [u8s_get _ _ (by rw [txRow_length, HN.out]; exact hlt)] at c1
      go_wp2_with fail
      go_roundw
      case rel =>
        refine ⟨k + 1, by omega, by go_num, Lib.hid ?_, Lib.hid (HBw.out.setCell (Nat.le_refl _) _)⟩
        have h := (HR.out.stored k (.int .u8 (48 + (x : Int)))).1
        rw [txRow_succ, HGX.out, ← u8s_set]
        exact h
      case measure => simp only [intOf]; omega
    · obtain rfl : k = N := by omega
      have hlt' : ¬ (k : Int) < (k : Int) := by omega
      have hrow := HR.out
      have hall := txRow_all X
      rw [HN.out] at hall
      rw [hall] at hrow
      have hconv := conv_row (by rw [List.length_map, HN.out]) hrow
      have hconv2 : (convert 56 9 (.slice (some ⟨w1.heap.size, 0, none⟩) k k)).run Try.prog wr = .ok (.string (txS X)) wr := hconv
      have HBf := Lib.hid (bstep (Below.mono HBw.out (Nat.le_refl _) |> fun h => bstep HB1.out h) (Below.refl _ _))
      clear hrow hall hconv
      go_wp2_with fail
      go_ret
      exact ⟨rfl, HBf.out⟩
end Go.Proofs.Ytdgjbejbbmnhbaa
