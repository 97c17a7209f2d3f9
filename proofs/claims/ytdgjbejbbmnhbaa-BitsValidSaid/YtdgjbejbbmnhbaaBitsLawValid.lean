/-
  The law BitsValid: the walk.
-/
import Derived.Test.YtdgjbejbbmnhbaaBitsAwake
namespace Go.Proofs.Ytdgjbejbbmnhbaa
open Go.RowKit Go.Proofs.BitsM
set_option maxRecDepth 100000 in
set_option maxHeartbeats 4000000 in
theorem lawValid (s : ByteArray) (n i : Int) (hs : s.size ≤ maxLen) (hn : i64ok n) (hi : i64ok i) (w : World) :
    Calls Try.prog 4 #[.agg #[.string s, .int .i64 n], .int .i64 i] w (Yes w) := by
  rw [maxLen_val] at hs
  by_cases hl : 4096 < s.size
  · have hl' : (4096 : Int) < (s.size : Int) := by omega
    go_enter Try.func4, Try.ntmps4
    go_wp2_with fail
    refine (awake_any _).mono ?_
    rintro e w1 ⟨rfl, hb⟩
    go_wp2_with fail
    go_ret
    exact ⟨rfl, bstep (below_alloc _ _) hb⟩
  · have hl' : ¬ (4096 : Int) < (s.size : Int) := by omega
    have hs' : s.size ≤ maxLen := by rw [maxLen_val]; exact hs
    have h1 := Valid_any s n hs' hn.1 hn.2
    have h2 := rValid_any s n hs' hn.1 hn.2
    have h3 := Bit_any s n i hs' hn.1 hn.2 hi.1 hi.2
    have h4 := rBit_any s n i hs' hn.1 hn.2 hi.1 hi.2
    have h5 := Of_any s (by rw [maxLen_val]; omega)
    generalize validB s n = v at h1 h2
    generalize bitI s n i = b at h3 h4
    obtain ⟨m, hm⟩ : ∃ m : Int, 8 * (s.size : Int) = m := ⟨_, rfl⟩
    rw [hm] at h5
    have hmw : IntKind.i64.wrap m = m := by rw [IntKind.wrap_i64]; omega
    have H1 := Lib.hid h1
    have H2 := Lib.hid h2
    have H3 := Lib.hid h3
    have H4 := Lib.hid h4
    have H5 := Lib.hid h5
    clear h1 h2 h3 h4 h5


    go_enter Try.func4, Try.ntmps4
    go_wp2_with fail
    go_region_held3 (fun w' => w'.cell? ⟨w.heap.size, 0, none⟩ = some (.string s) ∧ w'.cell? ⟨w.heap.size, 1, none⟩ = some (.int .i64 n))
      (first
        | (refine ⟨cells_of (new1_0 _ _) 0, cells_of (new1_0 _ _) 1⟩)
        | (go_split_ands; refine ⟨?_, ?_⟩ <;> exact below_keep hb6 (by assumption))
        | (go_split_ands; refine ⟨?_, ?_⟩ <;> exact below_keep hb5 (by assumption))
        | (go_split_ands; refine ⟨?_, ?_⟩ <;> exact below_keep hb4 (by assumption))
        | (go_split_ands; refine ⟨?_, ?_⟩ <;> exact below_keep hb3 (by assumption))
        | (go_split_ands; refine ⟨?_, ?_⟩ <;> exact below_keep hb2 (by assumption))
        | (go_split_ands; refine ⟨?_, ?_⟩ <;> exact below_keep hb1 (by assumption)))
      (first
        | (go_at_call 16; refine (H1.out _).mono ?_; rintro e w1 ⟨rfl, hb1⟩)
        | (go_at_call 17; refine (H2.out _).mono ?_; rintro e w2 ⟨rfl, hb2⟩)
        | (go_at_call 18; refine (H3.out _).mono ?_; rintro e w3 ⟨rfl, hb3⟩)
        | (go_at_call 19; refine (H4.out _).mono ?_; rintro e w4 ⟨rfl, hb4⟩)
        | (go_at_call 20; refine (H5.out _).mono ?_; rintro e w5 ⟨rfl, hb5⟩)
        | (go_at_call 13; refine (awake_any _).mono ?_; rintro e w6 ⟨rfl, hb6⟩))
    all_goals
      go_wp2_with fail
      go_ret
      exact ⟨rfl, bstep (bstep (bstep (bstep (bstep (bstep (below_alloc _ _).drew hb1) hb2) hb3) hb4) hb5) hb6⟩
end Go.Proofs.Ytdgjbejbbmnhbaa
