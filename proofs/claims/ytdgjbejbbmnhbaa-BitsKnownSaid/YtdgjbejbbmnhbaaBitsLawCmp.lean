/-
  The law BitsCmp: the walk.
-/
import Derived.Test.YtdgjbejbbmnhbaaBitsRCmp
import Derived.Test.YtdgjbejbbmnhbaaBitsAwake
namespace Go.Proofs.Ytdgjbejbbmnhbaa
open Go.RowKit Go.Proofs.BitsM
set_option maxRecDepth 100000 in
set_option maxHeartbeats 4000000 in
theorem lawCmp (s : ByteArray) (n : Int) (t : ByteArray) (m : Int) (hs : s.size ≤ maxLen) (hn : i64ok n) (ht : t.size ≤ maxLen) (hm : i64ok m) (w : World) :
    Calls Try.prog 10 #[.agg #[.string s, .int .i64 n], .agg #[.string t, .int .i64 m]] w (Yes w) := by
  rw [maxLen_val] at hs ht
  by_cases hl : 4096 < s.size
  · have hl' : (4096 : Int) < (s.size : Int) := by omega
    go_enter Try.func10, Try.ntmps10
    go_wp2_with fail
    refine (awake_any _).mono ?_
    rintro e w1 ⟨rfl, hb⟩
    go_wp2_with fail
    go_ret
    exact ⟨rfl, bstep (balloc (below_alloc _ _) _) hb⟩
  · have hl' : ¬ (4096 : Int) < (s.size : Int) := by omega
    by_cases hk : 4096 < t.size
    · have hk' : (4096 : Int) < (t.size : Int) := by omega
      go_enter Try.func10, Try.ntmps10
      go_wp2_with fail
      refine (awake_any _).mono ?_
      rintro e w1 ⟨rfl, hb⟩
      go_wp2_with fail
      go_ret
      exact ⟨rfl, bstep (balloc (below_alloc _ _) _) hb⟩
    · have hk' : ¬ (4096 : Int) < (t.size : Int) := by omega
      have h1 := fun W => Cmp_any s n t m (by omega) (by omega) hn hm W
      have h2 := fun W => rCmp_any s n t m (by omega) (by omega) hn hm W
      generalize cmpR s n t m = c at h1 h2
      have H1 := Lib.hid h1
      have H2 := Lib.hid h2
      clear h1 h2
      go_enter Try.func10, Try.ntmps10
      go_wp2_with fail
      go_region_held3 (fun w' => w'.cell? ⟨w.heap.size, 0, none⟩ = some (.string s) ∧ w'.cell? ⟨w.heap.size, 1, none⟩ = some (.int .i64 n) ∧ w'.cell? ⟨w.heap.size + 1, 0, none⟩ = some (.string t) ∧ w'.cell? ⟨w.heap.size + 1, 1, none⟩ = some (.int .i64 m))
        (first
          | (refine ⟨cells_of (new2_0 _ _ _) 0, cells_of (new2_0 _ _ _) 1, cells_of (new2_1 _ _ _) 0, cells_of (new2_1 _ _ _) 1⟩)
          | (go_split_ands; refine ⟨?_, ?_, ?_, ?_⟩ <;> exact below_keep hb3 (by assumption))
          | (go_split_ands; refine ⟨?_, ?_, ?_, ?_⟩ <;> exact below_keep hb2 (by assumption))
          | (go_split_ands; refine ⟨?_, ?_, ?_, ?_⟩ <;> exact below_keep hb1 (by assumption)))
        (first
          | (go_at_call 32; refine (H1.out _).mono ?_; rintro e w1 ⟨rfl, hb1⟩)
          | (go_at_call 33; refine (H2.out _).mono ?_; rintro e w2 ⟨rfl, hb2⟩)
          | (go_at_call 13; refine (awake_any _).mono ?_; rintro e w3 ⟨rfl, hb3⟩))
      all_goals
        go_wp2_with fail
        go_ret
        exact ⟨rfl, bstep (bstep (bstep (balloc (below_alloc _ _) _).drew hb1) hb2) hb3⟩
end Go.Proofs.Ytdgjbejbbmnhbaa
