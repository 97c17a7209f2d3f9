/-
  Plain law of TermsLimits: rows of integers; bit strings of zeros.
-/
import Derived.Test.YtgbaelkoblnlhaaBoth
import Derived.Test.YtgbaelkoblnlhaaShown
import Derived.Laws.BytesArg
import Derived.Laws.OwnMore
namespace Go.Proofs.Ytgbaelkoblnlhaa
open Go.RowKit Go.Proofs.BitsM
/-- so many integers -/
def rowI (h : Nat → Int) : Nat → TL
  | 0 => .nil
  | k + 1 => (rowI h k).app (.cons (intF (h k)) .nil .nil)
def rowC (h : Nat → Int) : Nat → List Value
  | 0 => []
  | k + 1 => rowC h k ++ (intF (h k)).cells (.slice none 0 0)
theorem rowI_len (h : Nat → Int) : ∀ k, (rowI h k).len = k
  | 0 => rfl
  | k + 1 => by rw [rowI, TL.len_app, rowI_len h k]; rfl
theorem rowI_cnt (h : Nat → Int) : ∀ k, (rowI h k).cnt = k
  | 0 => rfl
  | k + 1 => by rw [rowI, cnt_app, rowI_cnt h k]; rfl
theorem rowI_small (h : Nat → Int) : ∀ k, (rowI h k).small 1000000
  | 0 => trivial
  | k + 1 => small_app (rowI_small h k) ⟨Nat.zero_le _, Nat.zero_le _, Nat.zero_le _, trivial, trivial⟩
theorem rowI_form (h : Nat → Int) : ∀ k, formL (rowI h k) = true
  | 0 => rfl
  | k + 1 => by rw [rowI, formL_app, rowI_form h k, form_one, form_int]; rfl
theorem rowI_whole (h : Nat → Int) : ∀ k, wholeL (rowI h k) = k
  | 0 => rfl
  | k + 1 => by rw [rowI, wholeL_app, rowI_whole h k]; rfl
theorem rowC_len (h : Nat → Int) : ∀ k, (rowC h k).length = k * 9
  | 0 => rfl
  | k + 1 => by rw [rowC, List.length_append, rowC_len h k, cells_len]; omega
theorem rowI_nw (w : World) (A B : Nat) (h : Nat → Int) : ∀ k, NwR w A B (rowI h k) (rowC h k)
  | 0 => trivial
  | k + 1 => NwR.snoc (rowI_nw w A B h k) (by rw [rowC_len, rowI_len]) (NwS.nil w A B)
theorem rowI_own {w : World} {C k : Nat} {v : Value} {h : Nat → Int} (ho : w.ownsRow C 24 9 v k (rowC h k)) : RdS w 0 w.heap.size (rowI h k) v :=
  (NwS.of_owns (A := 0) ho (rowI_len h k).symm (Nat.zero_le _) (Nat.le_refl _) (rowI_nw w _ _ h k)).rds
/-- the tuple of so many integers -/
theorem rowI_tup (h : Nat → Int) (n : Nat) (hn : n ≤ 1000) : (n ≤ 255 → tupC (rowI h n) = 0 ∧ sizeF (kF 7) (rowI h n) = (n : Int) + 1) ∧ (¬ n ≤ 255 → tupC (rowI h n) = 3) := by
  have hf := rowI_form h n
  have hl := rowI_len h n
  have hw := rowI_whole h n
  refine ⟨fun h1 => ⟨?_, ?_⟩, fun h1 => ?_⟩
  · unfold tupC; rw [hf, hl, hw, if_pos rfl, if_neg (by omega)]
  · unfold sizeF; rw [form_tuple hf (by omega), whole_tuple, hw, if_pos rfl]; omega
  · unfold tupC; rw [hf, hl, hw, if_pos rfl, if_pos (by omega)]
theorem rowI_lst (h : Nat → Int) (m : Nat) (hm : 900 ≤ m) (hm2 : m ≤ 1100) : lstF (rowI h m) (kF 8) = kF 9 ∧ (2 * m + 1 ≤ 2000 → lstC (rowI h m) (kF 8) .nil = 0 ∧ sizeF (kF 9) (lstL (rowI h m) (kF 8) .nil) = 2 * (m : Int) + 1) ∧ (¬ 2 * m + 1 ≤ 2000 → lstC (rowI h m) (kF 8) .nil = 3) := by
  have hf := rowI_form h m
  have hl := rowI_len h m
  have hw := rowI_whole h m
  have h8 : wholeT (kF 8) .nil = 1 := rfl
  have hl0 : ¬ (rowI h m).len = 0 := by omega
  obtain ⟨g1, g2⟩ := form_made hf form_nil (by omega)
  have hc : lstC (rowI h m) (kF 8) .nil = if 2000 < m + 1 + m then 3 else 0 := by
    unfold lstC; rw [hf, form_nil, Bool.and_self, if_pos rfl, hw, h8, hl]
  refine ⟨by unfold lstF; rw [if_neg hl0], fun h1 => ⟨by rw [hc, if_neg (by omega)], ?_⟩, fun h1 => by rw [hc, if_pos (by omega)]⟩
  unfold sizeF lstL
  rw [if_neg hl0, g1, if_pos rfl, g2, hw, h8, hl]
  omega
/-- a string of zero bytes -/
def zerosS (n : Nat) : ByteArray := strOfNums (List.replicate n 0)
theorem zerosS_size (n : Nat) : (zerosS n).size = n := by unfold zerosS; rw [strOfNums_size]; simp
theorem zerosS_at (n k : Nat) : byteAt (zerosS n) k = 0 := by
  unfold byteAt
  split
  · rename_i h
    have e : (zerosS n).data.toList = List.replicate n 0 := by unfold zerosS; rw [strOfNums_data]; simp
    have hk : k < (zerosS n).data.toList.length := by simpa using h
    have h2 : (zerosS n)[k] = (zerosS n).data.toList[k]'hk := by simp [ByteArray.getElem_eq_getElem_data]
    rw [h2]
    simp only [e, List.getElem_replicate]
    rfl
  · rfl
def bitF (s : ByteArray) (n : Int) : Fd := ⟨10, 0, 0, ⟨#[]⟩, ⟨#[]⟩, 0, s, n⟩
theorem bit_form (k : Nat) (hk : k ≤ 16385) : (k ≤ 16384 → validF (bitF (zerosS ((k + 7) / 8)) k) .nil = true ∧ sizeF (bitF (zerosS ((k + 7) / 8)) k) .nil = 1 + ((k : Int) + 63) / 64) ∧ (¬ k ≤ 16384 → validF (bitF (zerosS ((k + 7) / 8)) k) .nil = false) := by
  have hf : formT (bitF (zerosS ((k + 7) / 8)) k) .nil = decide (k ≤ 16384) := by
    have h1 : validB (zerosS ((k + 7) / 8)) k = true := by
      unfold validB lenB
      rw [zerosS_size, zerosS_at]
      simp
    unfold formT nodeB
    rw [zeroB_k _ _ rfl rfl, show formL .nil = true from rfl, Bool.true_and, Bool.and_true]
    have e : okK (bitF (zerosS ((k + 7) / 8)) k) .nil = (withinB (k : Int) 0 16384 && validB (zerosS ((k + 7) / 8)) k) := rfl
    rw [e, h1, Bool.and_true]
    unfold withinB
    rw [Bool.eq_iff_iff]
    simp
    omega
  have hw : wholeT (bitF (zerosS ((k + 7) / 8)) k) .nil = 1 + (k + 63) / 64 := by
    unfold wholeT baseN
    rw [show (bitF (zerosS ((k + 7) / 8)) k).k = 10 from rfl, if_neg (by decide), if_pos rfl, show (bitF (zerosS ((k + 7) / 8)) k).n = (k : Int) from rfl, show wholeL .nil = 0 from rfl]
    simp
  refine ⟨fun h1 => ⟨?_, ?_⟩, fun h1 => ?_⟩
  · unfold validF; rw [hf, hw, decide_eq_true h1]; simp; omega
  · unfold sizeF; rw [hf, hw, decide_eq_true h1, if_pos rfl]; omega
  · unfold validF; rw [hf, decide_eq_false h1]; rfl
theorem bit_tame (k : Nat) (hk : k ≤ 16385) : tame (bitF (zerosS ((k + 7) / 8)) k) .nil := ⟨Nat.zero_le _, Nat.zero_le _, Nat.zero_le _, by show (zerosS ((k + 7) / 8)).size ≤ 1000000; rw [zerosS_size]; omega, trivial⟩
/-- zero bytes as a string -/
theorem conv_zeros {w : World} {base n g : Nat} (h : w.ownsRow base 5 1 (.slice (some ⟨g, 0, none⟩) n n) n (List.replicate n (.int .u8 0))) :
    (convert 39 9 (.slice (some ⟨g, 0, none⟩) n n)).run Try.prog w = .ok (.string (zerosS n)) w := by
  refine run_convert_bytes_arg w 39 5 Try.underlying39 Try.underlying5 g 0 _ n (List.replicate n 0) (by simp) ?_ _ Try.underlying9
  intro i hi
  rw [Nat.zero_add, h.cellAt i (by omega)]
  simp [hi]
theorem below_chain2 {w wr w2 w3 : World} {o : Obj} {B : Nat} {r : Option Nat} (h : Below B w wr) (hb : Below wr.heap.size wr w2) (hg : (w2.alloc o).grownBy w3 r) (hB : B ≤ wr.heap.size) (hr : ∀ k, r = some k → B ≤ k) : Below B w w3 := by
  have hz := hb.size
  exact ((h.trans (hb.mono hB)).alloc (by omega) o).grown hg (by simp; omega) hr
theorem Try.info5 : (Try.prog.info? 5).map (fun i => (i.zero, i.size, i.bytes)) = some (some (.int .u8 0), 1, 1) := by kernel_rfl
theorem tup_lim (h : Nat → Int) (n : Nat) (hn : n ≤ 1000) : ∃ (C : Int) (F : Fd) (L : TL), (∀ v w, RdS w 0 w.heap.size (rowI h n) v → Calls Try.prog 33 #[v] w (NewP (.int .i64 C) F L w)) ∧ tame F L ∧ ((n ≤ 255 ∧ C = 0 ∧ sizeF F L = (n : Int) + 1) ∨ (¬ n ≤ 255 ∧ C = 3)) := by
  have hc := rowI_cnt h n
  have ht := tame_res (c := tupC (rowI h n)) (tame_k (k := 7) (l := rowI h n) (by omega) (rowI_small h n))
  obtain ⟨h1, h2⟩ := rowI_tup h n hn
  refine ⟨_, _, _, fun v w hv => pTuple_any (rowI h n) v w 0 w.heap.size (by omega) (rowI_small h n) hv (Nat.le_refl _), ht.1, ?_⟩
  by_cases hk : n ≤ 255
  · obtain ⟨g1, g2⟩ := h1 hk
    exact .inl ⟨hk, g1, by rw [g1]; exact g2⟩
  · exact .inr ⟨hk, h2 hk⟩
theorem lst_lim (h : Nat → Int) (m : Nat) (hm : 900 ≤ m) (hm2 : m ≤ 1100) : ∃ (C : Int) (F : Fd) (L : TL), (∀ v w, RdS w 0 w.heap.size (rowI h m) v → Calls Try.prog 34 #[v, .agg #[.int .i64 8, .int .i64 0, .int .i64 0, .string ⟨#[]⟩, .string ⟨#[]⟩, .int .i64 0, .slice none 0 0, .string ⟨#[]⟩, .int .i64 0]] w (NewP (.int .i64 C) F L w)) ∧ tame F L ∧ ((2 * m + 1 ≤ 2000 ∧ C = 0 ∧ sizeF F L = 2 * (m : Int) + 1) ∨ (¬ 2 * m + 1 ≤ 2000 ∧ C = 3)) := by
  have hc := rowI_cnt h m
  have hk8 : tame (kF 8) .nil := tame_k (Nat.zero_le _) trivial
  have hl := tame_list (l := rowI h m) (f := kF 8) (it := .nil) (by simp only [TL.cnt]; omega) (rowI_small h m) hk8
  have ht := tame_res (c := lstC (rowI h m) (kF 8) .nil) hl.1
  obtain ⟨h0, h1, h2⟩ := rowI_lst h m hm hm2
  refine ⟨_, _, _, fun v w hv => pList_any (rowI h m) v (kF 8) .nil (.slice none 0 0) w 0 w.heap.size 0 w.heap.size (by omega) (rowI_small h m) hk8 hv (RdS.nil _ _ _) (Nat.le_refl _) (Nat.le_refl _), ht.1, ?_⟩
  by_cases hk : 2 * m + 1 ≤ 2000
  · obtain ⟨g1, g2⟩ := h1 hk
    exact .inl ⟨hk, g1, by rw [g1]; rw [← h0] at g2; exact g2⟩
  · exact .inr ⟨hk, h2 hk⟩
end Go.Proofs.Ytgbaelkoblnlhaa
