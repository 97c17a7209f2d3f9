/-
  Plain mathematics of joining and cutting: no walk in sight.
-/
import Derived.Test.YtdgjbejbbmnhbaaBitsLawCuts
namespace Go.Proofs.Ytdgjbejbbmnhbaa
open Go.RowKit Go.Proofs.BitsM
theorem ba_get (a : Array UInt8) (k : Nat) (h : k < a.size) : (ByteArray.mk a)[k]'h = a[k] := rfl
theorem packS_byte (L : List Bool) (k : Nat) : byteAt (packS L) k = (packN L).getD k 0 := by
  by_cases h : k < (packN L).length
  · have h' : k < (packS L).size := by rw [packS_size, ← packN_length]; exact h
    rw [← byteAt_eq h']
    have e : (packS L)[k] = UInt8.ofNat ((packN L)[k]) := by
      have hd : (packS L).data.toList = ((packN L).map fun b : Nat => (b : Int)).map fun n => UInt8.ofNat n.toNat := strOfNums_data _
      have : (packS L)[k] = (packS L).data.toList[k]'(by simpa using h') := by
        simp [ByteArray.getElem_eq_getElem_data]
      rw [this]
      simp only [hd, List.getElem_map, Int.toNat_natCast]
    rw [e, List.getD, List.getElem?_eq_getElem h, Option.getD_some]
    have := packN_lt L _ (List.getElem_mem h)
    rw [UInt8.toNat_ofNat']
    omega
  · rw [byteAt_ge (by rw [packS_size, ← packN_length]; omega), List.getD, List.getElem?_eq_none (by omega)]
    rfl
theorem packS_bit (L : List Bool) (i : Nat) : bitB (packS L) i = L.getD i false := by
  rw [← packN_lbit]; unfold bitB lbit; rw [packS_byte]
theorem bitsB_packS (L : List Bool) (f k : Nat) (h : f + k ≤ L.length) : bitsB (packS L) f k = (L.drop f).take k := by
  apply List.ext_getElem
  · simp; omega
  · intro i h1 h2
    simp only [bitsB_length] at h1
    simp only [bitsB, List.getElem_map, List.getElem_range, packS_bit, List.getElem_take, List.getElem_drop]
    rw [List.getD, List.getElem?_eq_getElem (by omega), Option.getD_some]
theorem bitsB_all (L : List Bool) : bitsB (packS L) 0 L.length = L := by rw [bitsB_packS _ _ _ (by omega)]; simp
theorem byteAt_bits {s t : ByteArray} (hs : s.size = t.size) (h : ∀ i, i < 8 * s.size → bitB s i = bitB t i) : s = t := by
  apply ByteArray.ext
  apply Array.ext hs
  intro k h1 h2
  have h1' : k < s.size := h1
  have h2' : k < t.size := h2
  have e : byteAt s k = byteAt t k := by
    apply byte_ext (byteAt_lt _ _) (byteAt_lt _ _)
    intro j hj
    have := h (8 * k + j) (by omega)
    unfold bitB at this
    rwa [show (8 * k + j) / 8 = k by omega, show (8 * k + j) % 8 = j by omega] at this
  rw [← byteAt_eq h1', ← byteAt_eq h2'] at e
  exact UInt8.toNat_inj.1 e
theorem valid_tail {s : ByteArray} {n : Int} (h : validB s n = true) (i : Nat) (h1 : n ≤ i) (h2 : i < 8 * s.size) : bitB s i = false := by
  obtain ⟨h0, hl⟩ := valid_size h
  unfold lenB at hl
  by_cases h8 : n % 8 = 0
  · omega
  · rw [validB_part h0 (by unfold lenB; exact hl) h8, decide_eq_true_eq, low_bits _ _ (by omega)] at h
    have := h (i % 8) (by omega) (by omega)
    have hb := bitN_eq s i
    rw [show i / 8 = s.size - 1 by omega, this] at hb
    unfold bitN at hb
    cases hh : bitB s i
    · rfl
    · rw [hh] at hb; simp at hb
theorem valid_pack {s : ByteArray} {n : Int} (h : validB s n = true) : packS (bitsB s 0 n.toNat) = s := by
  obtain ⟨h0, hl⟩ := valid_size h
  unfold lenB at hl
  apply byteAt_bits
  · rw [packS_size, bitsB_length]; omega
  · intro i hi
    rw [packS_size, bitsB_length] at hi
    rw [packS_bit]
    by_cases hn : i < n.toNat
    · rw [bitsB_getD _ _ _ _ hn, Nat.zero_add]
    · rw [List.getD, List.getElem?_eq_none (by simp; omega), Option.getD_none]
      exact (valid_tail h i (by omega) (by omega)).symm
theorem pack_valid (L : List Bool) : validB (packS L) (L.length : Int) = true := by
  have hl : ((packS L).size : Int) = lenB (L.length : Int) := by rw [packS_size]; unfold lenB; omega
  by_cases h8 : (L.length : Int) % 8 = 0
  · exact validB_whole (by omega) hl h8
  · rw [validB_part (by omega) hl h8, decide_eq_true_eq, low_bits _ _ (by omega)]
    intro i h1 h2
    have hb := bitN_eq (packS L) (8 * ((packS L).size - 1) + i)
    rw [show (8 * ((packS L).size - 1) + i) / 8 = (packS L).size - 1 by omega, show (8 * ((packS L).size - 1) + i) % 8 = i by omega] at hb
    rw [← hb]
    unfold bitN
    rw [packS_bit, List.getD, List.getElem?_eq_none (by rw [packS_size]; omega)]
    rfl
/-- the bit string of these bits -/
def BV (L : List Bool) : ByteArray × Int := (packS L, (L.length : Int))
theorem valid_BV {s : ByteArray} {n : Int} (h : validB s n = true) : (s, n) = BV (bitsB s 0 n.toNat) := by
  unfold BV; rw [valid_pack h, bitsB_length]; have := (valid_size h).1
  congr 1; omega
theorem joinGo_BV (L : List Bool) : ∀ Ls : List (List Bool), L.length + (Ls.map List.length).sum ≤ 16384 → joinGo L (Ls.map BV) = some (L ++ Ls.flatten)
  | [], _ => by simp [joinGo]
  | M :: Ls, h => by
    simp only [List.map_cons, List.sum_cons] at h
    simp only [List.map_cons, joinGo, BV]
    rw [if_neg (by omega), Int.toNat_natCast, bitsB_all]
    have := joinGo_BV (L ++ M) Ls (by simp only [List.length_append]; omega)
    rw [this]
    simp
theorem joinR_BV (Ls : List (List Bool)) (h : (Ls.map List.length).sum ≤ 16384) : joinR (Ls.map BV) = (packS Ls.flatten, (Ls.flatten.length : Int), 0) := by
  unfold joinR
  have hv : allV (Ls.map BV) = true := by
    unfold allV
    rw [List.all_map, List.all_eq_true]
    intro x _
    exact pack_valid x
  rw [if_pos hv, joinGo_BV [] Ls (by simpa using h)]
  simp
theorem cutR_BV (L : List Bool) (f k : Nat) (h : f + k ≤ L.length) : cutR (packS L) (L.length : Int) f k = (packS ((L.drop f).take k), (k : Int), 0) := by
  unfold cutR
  rw [if_pos (cutOk_iff.2 ⟨pack_valid L, by omega, by omega, by omega, by omega⟩)]
  simp only [Int.toNat_natCast]
  rw [bitsB_packS _ _ _ h]
end Go.Proofs.Ytdgjbejbbmnhbaa
