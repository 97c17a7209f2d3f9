/-
  The law BitsCuts: the walk.
-/
import Derived.Test.YtdgjbejbbmnhbaaBitsAwake
namespace Go.Proofs.Ytdgjbejbbmnhbaa
open Go.RowKit Go.Proofs.BitsM
def cutR (s : ByteArray) (n f k : Int) : ByteArray × Int × Int := if cutOk s n f k = true then (packS (bitsB s f.toNat k.toNat), k, 0) else (⟨#[]⟩, 0, 2)
theorem Cut_any (s : ByteArray) (n f k : Int) (hs : s.size ≤ 4096) (hn : i64ok n) (hf : i64ok f) (hk : i64ok k) (w : World) :
    Calls Try.prog 21 #[.agg #[.string s, .int .i64 n], .int .i64 f, .int .i64 k] w fun e w' => e = bitsRet (cutR s n f k) ∧ Below w.heap.size w w' := by
  by_cases h : cutOk s n f k = true
  · obtain ⟨_, h2, h3, _, _⟩ := cutOk_iff.1 h
    obtain ⟨f, rfl⟩ := Int.eq_ofNat_of_zero_le h2
    obtain ⟨k, rfl⟩ := Int.eq_ofNat_of_zero_le h3
    rw [cutR, if_pos h]
    exact Cut_ok s n f k (by omega) hn h w
  · rw [cutR, if_neg h]
    exact Cut_bad s n f k (by rw [maxLen_val]; omega) hn hf hk (by simpa using h) w
theorem rCut_any (s : ByteArray) (n f k : Int) (hs : s.size ≤ 4096) (hn : i64ok n) (hf : i64ok f) (hk : i64ok k) (w : World) :
    Calls Try.prog 22 #[.agg #[.string s, .int .i64 n], .int .i64 f, .int .i64 k] w fun e w' => e = bitsRet (cutR s n f k) ∧ Below w.heap.size w w' := by
  by_cases h : cutOk s n f k = true
  · obtain ⟨hv, h2, h3, _, _⟩ := cutOk_iff.1 h
    have hn0 := (valid_size hv).1
    obtain ⟨f, rfl⟩ := Int.eq_ofNat_of_zero_le h2
    obtain ⟨k, rfl⟩ := Int.eq_ofNat_of_zero_le h3
    obtain ⟨n, rfl⟩ := Int.eq_ofNat_of_zero_le hn0
    rw [cutR, if_pos h]
    exact rCut_ok s n f k hs h w
  · rw [cutR, if_neg h]
    exact rCut_bad s n f k (by rw [maxLen_val]; omega) hn hf hk (by simpa using h) w
set_option maxHeartbeats 1000000 in
theorem lawCuts (s : ByteArray) (n f k : Int) (hs : s.size ≤ maxLen) (hn : i64ok n) (hf : i64ok f) (hk : i64ok k) (w : World) :
    Calls Try.prog 5 #[.agg #[.string s, .int .i64 n], .int .i64 f, .int .i64 k] w (Yes w) := by
  rw [maxLen_val] at hs
  by_cases hl : 4096 < s.size
  · have hl' : (4096 : Int) < (s.size : Int) := by omega
    go_enter Try.func5, Try.ntmps5
    go_wp2_with fail
    refine (awake_any _).mono ?_
    rintro e w1 ⟨rfl, hb⟩
    go_wp2_with fail
    go_ret
    exact ⟨rfl, bstep (below_alloc _ _) hb⟩
  · have hl' : ¬ (4096 : Int) < (s.size : Int) := by omega
    have hc1 := Cut_any s n f k (by omega) hn hf hk
    have hc2 := rCut_any s n f k (by omega) hn hf hk
    generalize cutR s n f k = r at hc1 hc2
    obtain ⟨x, y, z⟩ := r
    simp only [bitsRet] at hc1 hc2
    have HC1 := Lib.hid hc1
    have HC2 := Lib.hid hc2
    clear hc1 hc2
    go_enter Try.func5, Try.ntmps5
    go_wp2_with fail
    refine (HC1.out _).mono ?_
    rintro e w1 ⟨rfl, hb1⟩
    have hA := (hb1.block w.heap.size (by simp)).trans (new1_0 _ _)
    have HA1 := Lib.hid hA
    have a0 := cells_later hA 0
    have a1 := cells_later hA 1
    simp only [List.getElem?_toArray, List.getElem?_cons_succ, List.getElem?_cons_zero] at a0 a1
    have HB1 := Lib.hid (bstep (below_alloc _ _) hb1)
    clear hA hb1
    go_wp2_with fail
    refine (HC2.out _).mono ?_
    rintro e w2 ⟨rfl, hb2⟩
    have hR := (hb2.block w1.heap.size (by simp)).trans (new1_0 _ _)
    have r0 := cells_later hR 0
    have r1 := cells_later hR 1
    simp only [List.getElem?_toArray, List.getElem?_cons_succ, List.getElem?_cons_zero] at r0 r1
    have HB2 := Lib.hid (bstep (balloc HB1.out _) hb2)
    have hne : ¬ w1.heap.size = w2.heap.size := by have := hb2.size; simp at this; omega
    clear hR hb2
    go_wp2_with fail
    refine (awake_any _).mono ?_
    rintro e w3 ⟨rfl, hb3⟩
    go_wp2_with fail
    go_ret
    exact ⟨rfl, bstep (balloc HB2.out _) hb3⟩
end Go.Proofs.Ytdgjbejbbmnhbaa
